import Derived.Test.YtacmaamllpiloaaGreatZ16
import Derived.Test.YtacmaamllpiloaaGreatZ06
import Derived.Test.YtacmaamllpiloaaGreatZ08
namespace Go.Proofs.YtacmaamllpiloaaGreat
open Go Go.Wk
set_option maxHeartbeats 800000
set_option maxRecDepth 10000
abbrev Msg := SL UInt8
structure SemG where
 b : Nat
 first : Int
 most : Int
 count : Int
instance : Inhabited SemG := ⟨⟨0, 0, 0, 0⟩⟩
def SemG.pt (g : SemG) : Pt := ⟨some g.b⟩
abbrev semA (g : SemG) : Asrt := blk g.b (.cells [.int .i64 g.first, .int .i64 g.most, .int .i64 g.count].toArray 231 (0, 0))
structure FlagG where
 b : Nat
 up : Bool
instance : Inhabited FlagG := ⟨⟨0, false⟩⟩
def FlagG.pt (g : FlagG) : Pt := ⟨some g.b⟩
abbrev flagA (g : FlagG) : Asrt := blk g.b (.cells [.bool g.up].toArray 4 (0, 0))
structure PoolG where
 b : Nat
 size : Int
 depth : Int
 s : SV
 ms : List Msg
instance : Inhabited PoolG := ⟨⟨0, 0, 0, ⟨none, 0, 0⟩, []⟩⟩
def PoolG.pt (g : PoolG) : Pt := ⟨some g.b⟩
abbrev poolA (g : PoolG) : Asrt := sep (blk g.b (.cells [.int .i64 g.size, .int .i64 g.depth, g.s.v].toArray 239 (0, 0))) (sep (sl false g.s.v g.ms) (fzl g.ms))
structure SlateG where
 b : Nat
 size : Int
 m : Msg
 shown : Bool
instance : Inhabited SlateG := ⟨⟨0, 0, default, false⟩⟩
def SlateG.pt (g : SlateG) : Pt := ⟨some g.b⟩
abbrev slateA (g : SlateG) : Asrt := sep (blk g.b (.cells [.int .i64 g.size, g.m.s.v, .bool g.shown].toArray 244 (0, 0))) (Fz.fz g.m)
structure ObW where
 c : PartC
 ss : SV
 fs : SV
 ps : SV
 ls : SV
abbrev obC (b : Nat) (c : PartC) (v1 v2 v3 v4 : Value) : Asrt := blk b (.cells [c.regions.v, c.procs.v, c.ports.v, c.sems.v, .int .i64 c.flags, c.pools.v, c.slates.v, .int .i64 c.cap, .int .i64 c.budget, .int .i64 c.ladder, c.acts.v, v1, v2, v3, v4].toArray 193 (0, 0))
abbrev obB (b : Nat) (o : ObW) : Asrt := obC b o.c o.ss.v o.fs.v o.ps.v o.ls.v
attribute [local irreducible] BrK GenK EGenK EUnitK CallK FnK CallV GuardO GuardC CondW opX opK opKc chkR eqR seqK blkK endL WL WD W LoopW BinK Tr drewK resL PickK NotK NilK ExtrK getK Instr.storeAt Instr.loadAt Instr.fieldAt Instr.indexAt Instr.lookup Instr.mapUpdate Instr.box Instr.alloc Instr.build Instr.buildSlice Instr.makeSlice Instr.makeMap Instr.sliceAt Instr.field Instr.index Instr.makeInterface Instr.typeAssert Builtin.len_ Builtin.append_ Builtin.cap_ Builtin.min_ Builtin.max_ Builtin.copy_ Builtin.clear_ convert binOp mp blk rob sl sep ex fact old
instance : ElT 180 Pt := ⟨⟩
theorem sem_at_in {s : SV} {gs : List SemG} {k : Int} (h0 : 0 ≤ k) (h1 : k < gs.length) : Trip Tryz.prog 247 [.agg [s.v].toArray, .int .i64 k].toArray [sl false s.v (gs.map SemG.pt)]
  fun v l' => v = .pointer (some ⟨(ix gs k).b, 0, none⟩) ∧ l' = [sl false s.v (gs.map SemG.pt)] := by
 intro F K hK
 simp only [List.cons_append, List.nil_append]
 have hm := ix_map (f := SemG.pt) h0 h1
 have hl : (gs.map SemG.pt).length = gs.length := List.length_map _
 (refine Tr.enter (rs := [.tmp 4]) mixed fn247 rfl (by simp +arith [Tryz.ntmps247]) fun u => ?_; simp only [cd247, Tryz.f247])
 ((try simp only [WKb, ↓reduceIte, Nat.reduceEqDiff, Nat.reduceAdd]) <;> (repeat' ((first
  | (refine G.tr ?_; first | refine S.a ?_ | refine S.n fun _ => ?_ | refine S.i fun hix => ?_ | (refine S.g fun hb => ?_; (try simp only [hb])) | fail)
  | fail) <;> (try simp only [WKb, ↓reduceIte, Nat.reduceEqDiff, hm]))))
 all_goals
  refine Tr.fin hK ⟨rfl, rfl⟩ ?_
  ((try clear hK) <;> (try simp only [WKe, *]) <;> repeat (first | with_reducible exact EntR.done | refine S.e ?_ | refine EntR.drop (F := F) ?_ | fail))
theorem sem_at_out {s : SV} {gs : List SemG} {k : Int} (h : ¬ (0 ≤ k ∧ k < gs.length)) : Trip Tryz.prog 247 [.agg [s.v].toArray, .int .i64 k].toArray [sl false s.v (gs.map SemG.pt)]
  fun v l' => v = .pointer none ∧ l' = [sl false s.v (gs.map SemG.pt)] := by
 intro F K hK
 simp only [List.cons_append, List.nil_append]
 have hl : (gs.map SemG.pt).length = gs.length := List.length_map _
 (refine Tr.enter (rs := [.tmp 4]) mixed fn247 rfl (by simp +arith [Tryz.ntmps247]) fun u => ?_; simp only [cd247, Tryz.f247])
 ((try simp only [WKb, ↓reduceIte, Nat.reduceEqDiff, Nat.reduceAdd]) <;> (repeat' ((first
  | (refine G.tr ?_; first | refine S.a ?_ | refine S.n fun _ => ?_ | (refine S.s (fun hb => ?_) (fun hb => ?_) <;> ((try simp only [hb]) <;> (try (have hp := hb; simp only [WKs] at hp; (try have hq := Int.not_le.2 hp); (try have hq := Int.not_lt.2 hp))))))
  | fail) <;> (try simp only [WKb, ↓reduceIte, Nat.reduceEqDiff]))))
 all_goals
  refine Tr.fin hK ⟨rfl, rfl⟩ ?_
  ((try clear hK) <;> (try simp only [WKe, *]) <;> repeat (first | with_reducible exact EntR.done | refine S.e ?_ | refine EntR.drop (F := F) ?_ | fail))
theorem sem_in {b : Nat} {o : ObW} {gs : List SemG} {k : Int} (h0 : 0 ≤ k) (h1 : k < gs.length) : Trip Tryz.prog 233 [.pointer (some ⟨b, 0, none⟩), .int .i64 k].toArray [obB b o, sl false o.ss.v (gs.map SemG.pt)]
  fun v l' => v = .pointer (some ⟨(ix gs k).b, 0, none⟩) ∧ l' = [obB b o, sl false o.ss.v (gs.map SemG.pt)] := by
 intro F K hK
 simp only [List.cons_append, List.nil_append]
 (refine Tr.enter (rs := [.tmp 4]) mixed fn233 rfl (by simp +arith [Tryz.ntmps233]) fun u => ?_; simp only [cd233, Tryz.f233])
 ((try simp only [WKb, ↓reduceIte, Nat.reduceEqDiff, Nat.reduceAdd]) <;> (repeat' ((first
  | (refine G.tr ?_; first | refine S.a ?_ | (refine G.call 247 ?_; first | refine S.c ?_ (h := sem_at_in (by omega) (by omega)) | fail) | fail)
  | rintro _ _ ⟨rfl, rfl⟩
  | fail) <;> (try simp only [WKb, ↓reduceIte, Nat.reduceEqDiff]))))
 all_goals
  refine Tr.fin hK ⟨rfl, rfl⟩ ?_
  ((try clear hK) <;> (try simp only [WKe, *]) <;> repeat (first | with_reducible exact EntR.done | refine S.e ?_ | fail))
theorem sem_out {b : Nat} {o : ObW} {gs : List SemG} {k : Int} (h : ¬ (0 ≤ k ∧ k < gs.length)) : Trip Tryz.prog 233 [.pointer (some ⟨b, 0, none⟩), .int .i64 k].toArray [obB b o, sl false o.ss.v (gs.map SemG.pt)]
  fun v l' => v = .pointer none ∧ l' = [obB b o, sl false o.ss.v (gs.map SemG.pt)] := by
 intro F K hK
 simp only [List.cons_append, List.nil_append]
 (refine Tr.enter (rs := [.tmp 4]) mixed fn233 rfl (by simp +arith [Tryz.ntmps233]) fun u => ?_; simp only [cd233, Tryz.f233])
 ((try simp only [WKb, ↓reduceIte, Nat.reduceEqDiff, Nat.reduceAdd]) <;> (repeat' ((first
  | (refine G.tr ?_; first | refine S.a ?_ | (refine G.call 247 ?_; first | refine S.c ?_ (h := sem_at_out (by omega))) | fail)
  | rintro _ _ ⟨rfl, rfl⟩
  | fail) <;> (try simp only [WKb, ↓reduceIte, Nat.reduceEqDiff]))))
 all_goals
  refine Tr.fin hK ⟨rfl, rfl⟩ ?_
  ((try clear hK) <;> (try simp only [WKe, *]) <;> repeat (first | with_reducible exact EntR.done | refine S.e ?_ | fail))
instance : ElT 183 Pt := ⟨⟩
theorem flag_at_in {s : SV} {gs : List FlagG} {k : Int} (h0 : 0 ≤ k) (h1 : k < gs.length) : Trip Tryz.prog 246 [.agg [s.v].toArray, .int .i64 k].toArray [sl false s.v (gs.map FlagG.pt)]
  fun v l' => v = .pointer (some ⟨(ix gs k).b, 0, none⟩) ∧ l' = [sl false s.v (gs.map FlagG.pt)] := by
 intro F K hK
 simp only [List.cons_append, List.nil_append]
 have hm := ix_map (f := FlagG.pt) h0 h1
 have hl : (gs.map FlagG.pt).length = gs.length := List.length_map _
 (refine Tr.enter (rs := [.tmp 4]) mixed fn246 rfl (by simp +arith [Tryz.ntmps246]) fun u => ?_; simp only [cd246, Tryz.f246])
 ((try simp only [WKb, ↓reduceIte, Nat.reduceEqDiff, Nat.reduceAdd]) <;> (repeat' ((first
  | (refine G.tr ?_; first | refine S.a ?_ | refine S.n fun _ => ?_ | refine S.i fun hix => ?_ | (refine S.g fun hb => ?_; (try simp only [hb])) | fail)
  | fail) <;> (try simp only [WKb, ↓reduceIte, Nat.reduceEqDiff, hm]))))
 all_goals
  refine Tr.fin hK ⟨rfl, rfl⟩ ?_
  ((try clear hK) <;> (try simp only [WKe, *]) <;> repeat (first | with_reducible exact EntR.done | refine S.e ?_ | refine EntR.drop (F := F) ?_ | fail))
theorem flag_at_out {s : SV} {gs : List FlagG} {k : Int} (h : ¬ (0 ≤ k ∧ k < gs.length)) : Trip Tryz.prog 246 [.agg [s.v].toArray, .int .i64 k].toArray [sl false s.v (gs.map FlagG.pt)]
  fun v l' => v = .pointer none ∧ l' = [sl false s.v (gs.map FlagG.pt)] := by
 intro F K hK
 simp only [List.cons_append, List.nil_append]
 have hl : (gs.map FlagG.pt).length = gs.length := List.length_map _
 (refine Tr.enter (rs := [.tmp 4]) mixed fn246 rfl (by simp +arith [Tryz.ntmps246]) fun u => ?_; simp only [cd246, Tryz.f246])
 ((try simp only [WKb, ↓reduceIte, Nat.reduceEqDiff, Nat.reduceAdd]) <;> (repeat' ((first
  | (refine G.tr ?_; first | refine S.a ?_ | refine S.n fun _ => ?_ | (refine S.s (fun hb => ?_) (fun hb => ?_) <;> ((try simp only [hb]) <;> (try (have hp := hb; simp only [WKs] at hp; (try have hq := Int.not_le.2 hp); (try have hq := Int.not_lt.2 hp))))))
  | fail) <;> (try simp only [WKb, ↓reduceIte, Nat.reduceEqDiff]))))
 all_goals
  refine Tr.fin hK ⟨rfl, rfl⟩ ?_
  ((try clear hK) <;> (try simp only [WKe, *]) <;> repeat (first | with_reducible exact EntR.done | refine S.e ?_ | refine EntR.drop (F := F) ?_ | fail))
theorem flag_in {b : Nat} {o : ObW} {gs : List FlagG} {k : Int} (h0 : 0 ≤ k) (h1 : k < gs.length) : Trip Tryz.prog 232 [.pointer (some ⟨b, 0, none⟩), .int .i64 k].toArray [obB b o, sl false o.fs.v (gs.map FlagG.pt)]
  fun v l' => v = .pointer (some ⟨(ix gs k).b, 0, none⟩) ∧ l' = [obB b o, sl false o.fs.v (gs.map FlagG.pt)] := by
 intro F K hK
 simp only [List.cons_append, List.nil_append]
 (refine Tr.enter (rs := [.tmp 4]) mixed fn232 rfl (by simp +arith [Tryz.ntmps232]) fun u => ?_; simp only [cd232, Tryz.f232])
 ((try simp only [WKb, ↓reduceIte, Nat.reduceEqDiff, Nat.reduceAdd]) <;> (repeat' ((first
  | (refine G.tr ?_; first | refine S.a ?_ | (refine G.call 246 ?_; first | refine S.c ?_ (h := flag_at_in (by omega) (by omega)) | fail) | fail)
  | rintro _ _ ⟨rfl, rfl⟩
  | fail) <;> (try simp only [WKb, ↓reduceIte, Nat.reduceEqDiff]))))
 all_goals
  refine Tr.fin hK ⟨rfl, rfl⟩ ?_
  ((try clear hK) <;> (try simp only [WKe, *]) <;> repeat (first | with_reducible exact EntR.done | refine S.e ?_ | fail))
theorem flag_out {b : Nat} {o : ObW} {gs : List FlagG} {k : Int} (h : ¬ (0 ≤ k ∧ k < gs.length)) : Trip Tryz.prog 232 [.pointer (some ⟨b, 0, none⟩), .int .i64 k].toArray [obB b o, sl false o.fs.v (gs.map FlagG.pt)]
  fun v l' => v = .pointer none ∧ l' = [obB b o, sl false o.fs.v (gs.map FlagG.pt)] := by
 intro F K hK
 simp only [List.cons_append, List.nil_append]
 (refine Tr.enter (rs := [.tmp 4]) mixed fn232 rfl (by simp +arith [Tryz.ntmps232]) fun u => ?_; simp only [cd232, Tryz.f232])
 ((try simp only [WKb, ↓reduceIte, Nat.reduceEqDiff, Nat.reduceAdd]) <;> (repeat' ((first
  | (refine G.tr ?_; first | refine S.a ?_ | (refine G.call 246 ?_; first | refine S.c ?_ (h := flag_at_out (by omega))) | fail)
  | rintro _ _ ⟨rfl, rfl⟩
  | fail) <;> (try simp only [WKb, ↓reduceIte, Nat.reduceEqDiff]))))
 all_goals
  refine Tr.fin hK ⟨rfl, rfl⟩ ?_
  ((try clear hK) <;> (try simp only [WKe, *]) <;> repeat (first | with_reducible exact EntR.done | refine S.e ?_ | fail))
instance : ElT 186 Pt := ⟨⟩
theorem pool_at_in {s : SV} {gs : List PoolG} {k : Int} (h0 : 0 ≤ k) (h1 : k < gs.length) : Trip Tryz.prog 249 [.agg [s.v].toArray, .int .i64 k].toArray [sl false s.v (gs.map PoolG.pt)]
  fun v l' => v = .pointer (some ⟨(ix gs k).b, 0, none⟩) ∧ l' = [sl false s.v (gs.map PoolG.pt)] := by
 intro F K hK
 simp only [List.cons_append, List.nil_append]
 have hm := ix_map (f := PoolG.pt) h0 h1
 have hl : (gs.map PoolG.pt).length = gs.length := List.length_map _
 (refine Tr.enter (rs := [.tmp 4]) mixed fn249 rfl (by simp +arith [Tryz.ntmps249]) fun u => ?_; simp only [cd249, Tryz.f249])
 ((try simp only [WKb, ↓reduceIte, Nat.reduceEqDiff, Nat.reduceAdd]) <;> (repeat' ((first
  | (refine G.tr ?_; first | refine S.a ?_ | refine S.n fun _ => ?_ | refine S.i fun hix => ?_ | (refine S.g fun hb => ?_; (try simp only [hb])) | fail)
  | fail) <;> (try simp only [WKb, ↓reduceIte, Nat.reduceEqDiff, hm]))))
 all_goals
  refine Tr.fin hK ⟨rfl, rfl⟩ ?_
  ((try clear hK) <;> (try simp only [WKe, *]) <;> repeat (first | with_reducible exact EntR.done | refine S.e ?_ | refine EntR.drop (F := F) ?_ | fail))
theorem pool_at_out {s : SV} {gs : List PoolG} {k : Int} (h : ¬ (0 ≤ k ∧ k < gs.length)) : Trip Tryz.prog 249 [.agg [s.v].toArray, .int .i64 k].toArray [sl false s.v (gs.map PoolG.pt)]
  fun v l' => v = .pointer none ∧ l' = [sl false s.v (gs.map PoolG.pt)] := by
 intro F K hK
 simp only [List.cons_append, List.nil_append]
 have hl : (gs.map PoolG.pt).length = gs.length := List.length_map _
 (refine Tr.enter (rs := [.tmp 4]) mixed fn249 rfl (by simp +arith [Tryz.ntmps249]) fun u => ?_; simp only [cd249, Tryz.f249])
 ((try simp only [WKb, ↓reduceIte, Nat.reduceEqDiff, Nat.reduceAdd]) <;> (repeat' ((first
  | (refine G.tr ?_; first | refine S.a ?_ | refine S.n fun _ => ?_ | (refine S.s (fun hb => ?_) (fun hb => ?_) <;> ((try simp only [hb]) <;> (try (have hp := hb; simp only [WKs] at hp; (try have hq := Int.not_le.2 hp); (try have hq := Int.not_lt.2 hp))))))
  | fail) <;> (try simp only [WKb, ↓reduceIte, Nat.reduceEqDiff]))))
 all_goals
  refine Tr.fin hK ⟨rfl, rfl⟩ ?_
  ((try clear hK) <;> (try simp only [WKe, *]) <;> repeat (first | with_reducible exact EntR.done | refine S.e ?_ | refine EntR.drop (F := F) ?_ | fail))
theorem pool_in {b : Nat} {o : ObW} {gs : List PoolG} {k : Int} (h0 : 0 ≤ k) (h1 : k < gs.length) : Trip Tryz.prog 235 [.pointer (some ⟨b, 0, none⟩), .int .i64 k].toArray [obB b o, sl false o.ps.v (gs.map PoolG.pt)]
  fun v l' => v = .pointer (some ⟨(ix gs k).b, 0, none⟩) ∧ l' = [obB b o, sl false o.ps.v (gs.map PoolG.pt)] := by
 intro F K hK
 simp only [List.cons_append, List.nil_append]
 (refine Tr.enter (rs := [.tmp 4]) mixed fn235 rfl (by simp +arith [Tryz.ntmps235]) fun u => ?_; simp only [cd235, Tryz.f235])
 ((try simp only [WKb, ↓reduceIte, Nat.reduceEqDiff, Nat.reduceAdd]) <;> (repeat' ((first
  | (refine G.tr ?_; first | refine S.a ?_ | (refine G.call 249 ?_; first | refine S.c ?_ (h := pool_at_in (by omega) (by omega)) | fail) | fail)
  | rintro _ _ ⟨rfl, rfl⟩
  | fail) <;> (try simp only [WKb, ↓reduceIte, Nat.reduceEqDiff]))))
 all_goals
  refine Tr.fin hK ⟨rfl, rfl⟩ ?_
  ((try clear hK) <;> (try simp only [WKe, *]) <;> repeat (first | with_reducible exact EntR.done | refine S.e ?_ | fail))
theorem pool_out {b : Nat} {o : ObW} {gs : List PoolG} {k : Int} (h : ¬ (0 ≤ k ∧ k < gs.length)) : Trip Tryz.prog 235 [.pointer (some ⟨b, 0, none⟩), .int .i64 k].toArray [obB b o, sl false o.ps.v (gs.map PoolG.pt)]
  fun v l' => v = .pointer none ∧ l' = [obB b o, sl false o.ps.v (gs.map PoolG.pt)] := by
 intro F K hK
 simp only [List.cons_append, List.nil_append]
 (refine Tr.enter (rs := [.tmp 4]) mixed fn235 rfl (by simp +arith [Tryz.ntmps235]) fun u => ?_; simp only [cd235, Tryz.f235])
 ((try simp only [WKb, ↓reduceIte, Nat.reduceEqDiff, Nat.reduceAdd]) <;> (repeat' ((first
  | (refine G.tr ?_; first | refine S.a ?_ | (refine G.call 249 ?_; first | refine S.c ?_ (h := pool_at_out (by omega))) | fail)
  | rintro _ _ ⟨rfl, rfl⟩
  | fail) <;> (try simp only [WKb, ↓reduceIte, Nat.reduceEqDiff]))))
 all_goals
  refine Tr.fin hK ⟨rfl, rfl⟩ ?_
  ((try clear hK) <;> (try simp only [WKe, *]) <;> repeat (first | with_reducible exact EntR.done | refine S.e ?_ | fail))
instance : ElT 189 Pt := ⟨⟩
theorem slate_at_in {s : SV} {gs : List SlateG} {k : Int} (h0 : 0 ≤ k) (h1 : k < gs.length) : Trip Tryz.prog 248 [.agg [s.v].toArray, .int .i64 k].toArray [sl false s.v (gs.map SlateG.pt)]
  fun v l' => v = .pointer (some ⟨(ix gs k).b, 0, none⟩) ∧ l' = [sl false s.v (gs.map SlateG.pt)] := by
 intro F K hK
 simp only [List.cons_append, List.nil_append]
 have hm := ix_map (f := SlateG.pt) h0 h1
 have hl : (gs.map SlateG.pt).length = gs.length := List.length_map _
 (refine Tr.enter (rs := [.tmp 4]) mixed fn248 rfl (by simp +arith [Tryz.ntmps248]) fun u => ?_; simp only [cd248, Tryz.f248])
 ((try simp only [WKb, ↓reduceIte, Nat.reduceEqDiff, Nat.reduceAdd]) <;> (repeat' ((first
  | (refine G.tr ?_; first | refine S.a ?_ | refine S.n fun _ => ?_ | refine S.i fun hix => ?_ | (refine S.g fun hb => ?_; (try simp only [hb])) | fail)
  | fail) <;> (try simp only [WKb, ↓reduceIte, Nat.reduceEqDiff, hm]))))
 all_goals
  refine Tr.fin hK ⟨rfl, rfl⟩ ?_
  ((try clear hK) <;> (try simp only [WKe, *]) <;> repeat (first | with_reducible exact EntR.done | refine S.e ?_ | refine EntR.drop (F := F) ?_ | fail))
theorem slate_at_out {s : SV} {gs : List SlateG} {k : Int} (h : ¬ (0 ≤ k ∧ k < gs.length)) : Trip Tryz.prog 248 [.agg [s.v].toArray, .int .i64 k].toArray [sl false s.v (gs.map SlateG.pt)]
  fun v l' => v = .pointer none ∧ l' = [sl false s.v (gs.map SlateG.pt)] := by
 intro F K hK
 simp only [List.cons_append, List.nil_append]
 have hl : (gs.map SlateG.pt).length = gs.length := List.length_map _
 (refine Tr.enter (rs := [.tmp 4]) mixed fn248 rfl (by simp +arith [Tryz.ntmps248]) fun u => ?_; simp only [cd248, Tryz.f248])
 ((try simp only [WKb, ↓reduceIte, Nat.reduceEqDiff, Nat.reduceAdd]) <;> (repeat' ((first
  | (refine G.tr ?_; first | refine S.a ?_ | refine S.n fun _ => ?_ | (refine S.s (fun hb => ?_) (fun hb => ?_) <;> ((try simp only [hb]) <;> (try (have hp := hb; simp only [WKs] at hp; (try have hq := Int.not_le.2 hp); (try have hq := Int.not_lt.2 hp))))))
  | fail) <;> (try simp only [WKb, ↓reduceIte, Nat.reduceEqDiff]))))
 all_goals
  refine Tr.fin hK ⟨rfl, rfl⟩ ?_
  ((try clear hK) <;> (try simp only [WKe, *]) <;> repeat (first | with_reducible exact EntR.done | refine S.e ?_ | refine EntR.drop (F := F) ?_ | fail))
theorem slate_in {b : Nat} {o : ObW} {gs : List SlateG} {k : Int} (h0 : 0 ≤ k) (h1 : k < gs.length) : Trip Tryz.prog 234 [.pointer (some ⟨b, 0, none⟩), .int .i64 k].toArray [obB b o, sl false o.ls.v (gs.map SlateG.pt)]
  fun v l' => v = .pointer (some ⟨(ix gs k).b, 0, none⟩) ∧ l' = [obB b o, sl false o.ls.v (gs.map SlateG.pt)] := by
 intro F K hK
 simp only [List.cons_append, List.nil_append]
 (refine Tr.enter (rs := [.tmp 4]) mixed fn234 rfl (by simp +arith [Tryz.ntmps234]) fun u => ?_; simp only [cd234, Tryz.f234])
 ((try simp only [WKb, ↓reduceIte, Nat.reduceEqDiff, Nat.reduceAdd]) <;> (repeat' ((first
  | (refine G.tr ?_; first | refine S.a ?_ | (refine G.call 248 ?_; first | refine S.c ?_ (h := slate_at_in (by omega) (by omega)) | fail) | fail)
  | rintro _ _ ⟨rfl, rfl⟩
  | fail) <;> (try simp only [WKb, ↓reduceIte, Nat.reduceEqDiff]))))
 all_goals
  refine Tr.fin hK ⟨rfl, rfl⟩ ?_
  ((try clear hK) <;> (try simp only [WKe, *]) <;> repeat (first | with_reducible exact EntR.done | refine S.e ?_ | fail))
theorem slate_out {b : Nat} {o : ObW} {gs : List SlateG} {k : Int} (h : ¬ (0 ≤ k ∧ k < gs.length)) : Trip Tryz.prog 234 [.pointer (some ⟨b, 0, none⟩), .int .i64 k].toArray [obB b o, sl false o.ls.v (gs.map SlateG.pt)]
  fun v l' => v = .pointer none ∧ l' = [obB b o, sl false o.ls.v (gs.map SlateG.pt)] := by
 intro F K hK
 simp only [List.cons_append, List.nil_append]
 (refine Tr.enter (rs := [.tmp 4]) mixed fn234 rfl (by simp +arith [Tryz.ntmps234]) fun u => ?_; simp only [cd234, Tryz.f234])
 ((try simp only [WKb, ↓reduceIte, Nat.reduceEqDiff, Nat.reduceAdd]) <;> (repeat' ((first
  | (refine G.tr ?_; first | refine S.a ?_ | (refine G.call 248 ?_; first | refine S.c ?_ (h := slate_at_out (by omega))) | fail)
  | rintro _ _ ⟨rfl, rfl⟩
  | fail) <;> (try simp only [WKb, ↓reduceIte, Nat.reduceEqDiff]))))
 all_goals
  refine Tr.fin hK ⟨rfl, rfl⟩ ?_
  ((try clear hK) <;> (try simp only [WKe, *]) <;> repeat (first | with_reducible exact EntR.done | refine S.e ?_ | fail))
end Go.Proofs.YtacmaamllpiloaaGreat
namespace Go.Proofs.YtacmaamllpiloaaGreat
open Go Go.Wk
set_option maxHeartbeats 800000
set_option maxRecDepth 10000
def inR {α : Type} (gs : List α) (k : Int) : Prop := 0 ≤ k ∧ k < gs.length
instance {α : Type} {gs : List α} {k : Int} : Decidable (inR gs k) := by unfold inR; infer_instance
def takeC (gs : List SemG) (k : Int) : Int := if inR gs k then (if (ix gs k).count < 1 then 1 else 0) else 3
def takeG (gs : List SemG) (k : Int) : List SemG := if inR gs k then (if (ix gs k).count < 1 then gs else gs.set k.toNat { ix gs k with count := IntKind.i64.wrap ((ix gs k).count - 1) }) else gs
def giveC (gs : List SemG) (k : Int) : Int := if inR gs k then (if (ix gs k).most ≤ (ix gs k).count then 6 else 0) else 3
def giveG (gs : List SemG) (k : Int) : List SemG := if inR gs k then (if (ix gs k).most ≤ (ix gs k).count then gs else gs.set k.toNat { ix gs k with count := IntKind.i64.wrap ((ix gs k).count + 1) }) else gs
def flagC (gs : List FlagG) (k : Int) : Int := if inR gs k then 0 else 3
def flagG (gs : List FlagG) (k : Int) (up : Bool) : List FlagG := if inR gs k then gs.set k.toNat { ix gs k with up := up } else gs
def upB (gs : List FlagG) (k : Int) : Bool := if inR gs k then (ix gs k).up else false
attribute [local irreducible] BrK GenK EGenK EUnitK CallK FnK CallV GuardO GuardC CondW opX opK opKc chkR eqR seqK blkK endL WL WD W LoopW BinK Tr drewK resL PickK NotK NilK ExtrK getK Instr.storeAt Instr.loadAt Instr.fieldAt Instr.indexAt Instr.lookup Instr.mapUpdate Instr.box Instr.alloc Instr.build Instr.buildSlice Instr.makeSlice Instr.makeMap Instr.sliceAt Instr.field Instr.index Instr.makeInterface Instr.typeAssert Builtin.len_ Builtin.append_ Builtin.cap_ Builtin.min_ Builtin.max_ Builtin.copy_ Builtin.clear_ convert binOp mp blk rob sl sep ex fact old
theorem take_ok {b : Nat} {o : ObW} {gs : List SemG} {k : Int} : Trip Tryz.prog 172 [.pointer (some ⟨b, 0, none⟩), .int .i64 k].toArray [obB b o, fam semA gs, sl false o.ss.v (gs.map SemG.pt)]
  fun v l' => v = .int .i64 (takeC gs k) ∧ l' = [obB b o, sl false o.ss.v ((takeG gs k).map SemG.pt), fam semA (takeG gs k)] := by
 intro F K hK
 simp only [List.cons_append, List.nil_append]
 by_cases h : inR gs k
 ·have ⟨h0, h1⟩ := h
  have hs := fun c => map_same (f := SemG.pt) h0 h1 { ix gs k with count := c } rfl
  refine Tr.famAt (A := semA) k (by (repeat (first | exact TakeA.here | apply TakeA.next)); done) h0 h1 ?_
  (refine Tr.enter (rs := [.tmp 4]) mixed fn172 rfl (by simp +arith [Tryz.ntmps172]) fun u => ?_; simp only [cd172, Tryz.f172])
  ((try simp only [WKb, ↓reduceIte, Nat.reduceEqDiff, Nat.reduceAdd]) <;> (repeat' ((first
  | (refine G.tr ?_; first | refine S.a ?_ | (refine G.call 233 ?_; first | refine S.c ?_ (h := sem_in (by omega) (by omega)) | fail) | (refine S.s (fun hb => ?_) (fun hb => ?_) <;> ((try simp only [hb]) <;> (try (have hp := hb; simp only [WKs] at hp; (try have hq := Int.not_le.2 hp); (try have hq := Int.not_lt.2 hp))))))
  | rintro _ _ ⟨rfl, rfl⟩
  | fail) <;> (try simp only [WKb, ↓reduceIte, Nat.reduceEqDiff, Nat.reduceAdd]))))
  all_goals
   refine Tr.fin hK ⟨by simp [takeC, *], rfl⟩ ?_
   ((try clear hK) <;> (try simp only [WKe, takeG, ↓reduceIte, *]) <;> repeat (first | with_reducible exact EntR.done | refine S.e ?_ | (refine S.f ?_ <;> (try simp only [WKe, takeG, hs, ↓reduceIte, reduceCtorEq, Int.reduceEq, *])) | fail))
 ·have h' := h
  unfold inR at h'
  (refine Tr.enter (rs := [.tmp 4]) mixed fn172 rfl (by simp +arith [Tryz.ntmps172]) fun u => ?_; simp only [cd172, Tryz.f172])
  ((try simp only [WKb, ↓reduceIte, Nat.reduceEqDiff, Nat.reduceAdd]) <;> (repeat' ((first
  | (refine G.tr ?_; first | (refine G.call 233 ?_; first | refine S.c ?_ (h := sem_out (by omega))) | fail)
  | rintro _ _ ⟨rfl, rfl⟩
  | fail) <;> (try simp only [WKb, ↓reduceIte]))))
  all_goals
   refine Tr.fin hK ⟨by simp [takeC, *], rfl⟩ ?_
   ((try clear hK) <;> (try simp only [WKe, takeG, ↓reduceIte, *]) <;> repeat (first | with_reducible exact EntR.done | fail))
theorem give_ok {b : Nat} {o : ObW} {gs : List SemG} {k : Int} : Trip Tryz.prog 173 [.pointer (some ⟨b, 0, none⟩), .int .i64 k].toArray [obB b o, fam semA gs, sl false o.ss.v (gs.map SemG.pt)]
  fun v l' => v = .int .i64 (giveC gs k) ∧ l' = [obB b o, sl false o.ss.v ((giveG gs k).map SemG.pt), fam semA (giveG gs k)] := by
 intro F K hK
 simp only [List.cons_append, List.nil_append]
 by_cases h : inR gs k
 ·have ⟨h0, h1⟩ := h
  have hs := fun c => map_same (f := SemG.pt) h0 h1 { ix gs k with count := c } rfl
  refine Tr.famAt (A := semA) k (by (repeat (first | exact TakeA.here | apply TakeA.next)); done) h0 h1 ?_
  (refine Tr.enter (rs := [.tmp 4]) mixed fn173 rfl (by simp +arith [Tryz.ntmps173]) fun u => ?_; simp only [cd173, Tryz.f173])
  ((try simp only [WKb, ↓reduceIte, Nat.reduceEqDiff, Nat.reduceAdd]) <;> (repeat' ((first
  | (refine G.tr ?_; first | refine S.a ?_ | (refine G.call 233 ?_; first | refine S.c ?_ (h := sem_in (by omega) (by omega)) | fail) | (refine S.s (fun hb => ?_) (fun hb => ?_) <;> ((try simp only [hb]) <;> (try (have hp := hb; simp only [WKs] at hp; (try have hq := Int.not_le.2 hp); (try have hq := Int.not_lt.2 hp))))))
  | rintro _ _ ⟨rfl, rfl⟩
  | fail) <;> (try simp only [WKb, ↓reduceIte, Nat.reduceEqDiff, Nat.reduceAdd, pl173]))))
  all_goals
   refine Tr.fin hK ⟨by simp [giveC, *], rfl⟩ ?_
   ((try clear hK) <;> (try simp only [WKe, giveG, ↓reduceIte, *]) <;> repeat (first | with_reducible exact EntR.done | refine S.e ?_ | (refine S.f ?_ <;> (try simp only [WKe, giveG, hs, ↓reduceIte, reduceCtorEq, Int.reduceEq, *])) | fail))
 ·have h' := h
  unfold inR at h'
  (refine Tr.enter (rs := [.tmp 4]) mixed fn173 rfl (by simp +arith [Tryz.ntmps173]) fun u => ?_; simp only [cd173, Tryz.f173])
  ((try simp only [WKb, ↓reduceIte, Nat.reduceEqDiff, Nat.reduceAdd]) <;> (repeat' ((first
  | (refine G.tr ?_; first | (refine G.call 233 ?_; first | refine S.c ?_ (h := sem_out (by omega))) | fail)
  | rintro _ _ ⟨rfl, rfl⟩
  | fail) <;> (try simp only [WKb, ↓reduceIte]))))
  all_goals
   refine Tr.fin hK ⟨by simp [giveC, *], rfl⟩ ?_
   ((try clear hK) <;> (try simp only [WKe, giveG, ↓reduceIte, *]) <;> repeat (first | with_reducible exact EntR.done | fail))
theorem flag_ok {b : Nat} {o : ObW} {gs : List FlagG} {k : Int} {up : Bool} : Trip Tryz.prog 174 [.pointer (some ⟨b, 0, none⟩), .int .i64 k, .bool up].toArray [obB b o, fam flagA gs, sl false o.fs.v (gs.map FlagG.pt)]
  fun v l' => v = .int .i64 (flagC gs k) ∧ l' = [obB b o, sl false o.fs.v ((flagG gs k up).map FlagG.pt), fam flagA (flagG gs k up)] := by
 intro F K hK
 simp only [List.cons_append, List.nil_append]
 by_cases h : inR gs k
 ·have ⟨h0, h1⟩ := h
  have hs := fun c => map_same (f := FlagG.pt) h0 h1 { ix gs k with up := c } rfl
  refine Tr.famAt (A := flagA) k (by (repeat (first | exact TakeA.here | apply TakeA.next)); done) h0 h1 ?_
  (refine Tr.enter (rs := [.tmp 6]) mixed fn174 rfl (by simp +arith [Tryz.ntmps174]) fun u => ?_; simp only [cd174, Tryz.f174])
  ((try simp only [WKb, ↓reduceIte, Nat.reduceEqDiff, Nat.reduceAdd]) <;> (repeat' ((first
  | (refine G.tr ?_; first | refine S.a ?_ | (refine G.call 232 ?_; first | refine S.c ?_ (h := flag_in (by omega) (by omega)) | fail) | fail)
  | rintro _ _ ⟨rfl, rfl⟩
  | fail) <;> (try simp only [WKb, ↓reduceIte, Nat.reduceEqDiff]))))
  all_goals
   refine Tr.fin hK ⟨by simp [flagC, *], rfl⟩ ?_
   ((try clear hK) <;> (try simp only [WKe, flagG, ↓reduceIte, *]) <;> repeat (first | with_reducible exact EntR.done | refine S.e ?_ | (refine S.f ?_ <;> (try simp only [WKe, flagG, hs, ↓reduceIte, reduceCtorEq, Int.reduceEq, *])) | fail))
 ·have h' := h
  unfold inR at h'
  (refine Tr.enter (rs := [.tmp 6]) mixed fn174 rfl (by simp +arith [Tryz.ntmps174]) fun u => ?_; simp only [cd174, Tryz.f174])
  ((try simp only [WKb, ↓reduceIte, Nat.reduceEqDiff, Nat.reduceAdd]) <;> (repeat' ((first
  | (refine G.tr ?_; first | (refine G.call 232 ?_; first | refine S.c ?_ (h := flag_out (by omega))) | fail)
  | rintro _ _ ⟨rfl, rfl⟩
  | fail) <;> (try simp only [WKb, ↓reduceIte]))))
  all_goals
   refine Tr.fin hK ⟨by simp [flagC, *], rfl⟩ ?_
   ((try clear hK) <;> (try simp only [WKe, flagG, ↓reduceIte, *]) <;> repeat (first | with_reducible exact EntR.done | fail))
theorem up_ok {b : Nat} {o : ObW} {gs : List FlagG} {k : Int} : Trip Tryz.prog 170 [.pointer (some ⟨b, 0, none⟩), .int .i64 k].toArray [obB b o, fam flagA gs, sl false o.fs.v (gs.map FlagG.pt)]
  fun v l' => v = .tuple #[.bool (upB gs k), .int .i64 (flagC gs k)] ∧ l' = [obB b o, sl false o.fs.v ((gs).map FlagG.pt), fam flagA (gs)] := by
 intro F K hK
 simp only [List.cons_append, List.nil_append]
 by_cases h : inR gs k
 ·have ⟨h0, h1⟩ := h
  have hs := fun c => map_same (f := FlagG.pt) h0 h1 { ix gs k with up := c } rfl
  refine Tr.famAt (A := flagA) k (by (repeat (first | exact TakeA.here | apply TakeA.next)); done) h0 h1 ?_
  (refine Tr.enter (rs := [.tmp 4, .tmp 5]) mixed fn170 rfl (by simp +arith [Tryz.ntmps170]) fun u => ?_; simp only [cd170, Tryz.f170])
  ((try simp only [WKb, ↓reduceIte, Nat.reduceEqDiff, Nat.reduceAdd]) <;> (repeat' ((first
  | (refine G.tr ?_; first | refine S.a ?_ | (refine G.call 232 ?_; first | refine S.c ?_ (h := flag_in (by omega) (by omega)) | fail) | fail)
  | rintro _ _ ⟨rfl, rfl⟩
  | fail) <;> (try simp only [WKb, ↓reduceIte, Nat.reduceEqDiff]))))
  all_goals
   refine Tr.fin hK ⟨by simp [upB, flagC, *], rfl⟩ ?_
   ((try clear hK) <;> (try simp only [WKe, *]) <;> repeat (first | with_reducible exact EntR.done | refine S.e ?_ | (refine S.f ?_ <;> (try simp only [WKe, flagC, hs, ↓reduceIte, reduceCtorEq, Int.reduceEq, *])) | fail))
 ·have h' := h
  unfold inR at h'
  (refine Tr.enter (rs := [.tmp 4, .tmp 5]) mixed fn170 rfl (by simp +arith [Tryz.ntmps170]) fun u => ?_; simp only [cd170, Tryz.f170])
  ((try simp only [WKb, ↓reduceIte, Nat.reduceEqDiff, Nat.reduceAdd]) <;> (repeat' ((first
  | (refine G.tr ?_; first | (refine G.call 232 ?_; first | refine S.c ?_ (h := flag_out (by omega))) | fail)
  | rintro _ _ ⟨rfl, rfl⟩
  | fail) <;> (try simp only [WKb, ↓reduceIte, Nat.reduceEqDiff]))))
  all_goals
   refine Tr.fin hK ⟨by simp [upB, flagC, *], rfl⟩ ?_
   ((try clear hK) <;> (try simp only [WKe, *]) <;> repeat (first | with_reducible exact EntR.done | fail))
end Go.Proofs.YtacmaamllpiloaaGreat
