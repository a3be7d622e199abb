import Derived.Test.YtacmaamllpiloaaGreatZ23
namespace Go.Proofs.YtacmaamllpiloaaGreat
open Go Go.Wk
set_option maxHeartbeats 3200000
set_option maxRecDepth 10000
attribute [local irreducible] BrK GenK EGenK EUnitK CallK FnK CallV GuardO GuardC CondW opX opK opKc chkR eqR seqK blkK endL WL WD W LoopW BinK Tr drewK resL PickK NotK NilK ExtrK getK Instr.storeAt Instr.loadAt Instr.fieldAt Instr.indexAt Instr.lookup Instr.mapUpdate Instr.box Instr.alloc Instr.build Instr.buildSlice Instr.makeSlice Instr.makeMap Instr.sliceAt Instr.field Instr.index Instr.makeInterface Instr.typeAssert Builtin.len_ Builtin.append_ Builtin.cap_ Builtin.min_ Builtin.max_ Builtin.copy_ Builtin.clear_ convert binOp mp blk rob sl sep ex fact old
theorem write_ok {p : Nat} {s : SV} {gs : List OneG} {k : Int} {s2 : SV} {xs : List UInt8} (hn : xs.length ≤ 1000000) (hl0 : (ix gs k).ms.length ≤ 1000000) : Trip Tryz.prog 168 [.pointer (some ⟨p, 0, none⟩), .int .i64 k, s2.v].toArray [poB p s, fam oneA gs, sl false s.v (gs.map OneG.pt), sl true s2.v xs]
  fun v l' => ∃ s3 s4, v = .int .i64 (intoC gs k false xs.length) ∧ l' = [poB p s, fam oneA (intoG gs k false s3 ⟨s4, xs⟩), sl false s.v ((intoG gs k false s3 ⟨s4, xs⟩).map OneG.pt)] := by
 intro F K hK
 simp only [List.cons_append, List.nil_append]
 (refine Tr.enter (rs := [.tmp 6]) mixed fn168 rfl (by simp +arith [Tryz.ntmps168]) fun u => ?_; simp only [cd168, Tryz.f168])
 ((try simp only [WKb, ↓reduceIte, Nat.reduceEqDiff, Nat.reduceAdd]) <;> (repeat' ((first
  | (refine G.tr ?_; first | (refine G.call 149 ?_; refine S.c ?_ (h := into_ok ?_ ?_)) | fail)
  | rintro _ _ ⟨_, _, rfl, rfl⟩
  | ((fail_if_success refine G.tr ?_); exact G.prop S.p)
  | fail) <;> (try simp only [WKb, ↓reduceIte]))))
 all_goals
  apply Tr.fin hK ⟨_, _, rfl, rfl⟩
  ((try clear hK) <;> (try simp only [WKe, *]) <;> repeat (first | with_reducible exact EntR.done | refine S.e ?_ | refine EntR.drop (F := F) ?_ | fail))
theorem send_ok {p : Nat} {s : SV} {gs : List OneG} {k : Int} {s2 : SV} {xs : List UInt8} (hn : xs.length ≤ 1000000) (hl0 : (ix gs k).ms.length ≤ 1000000) : Trip Tryz.prog 93 [.pointer (some ⟨p, 0, none⟩), .int .i64 k, s2.v].toArray [poB p s, fam oneA gs, sl false s.v (gs.map OneG.pt), sl true s2.v xs]
  fun v l' => ∃ s3 s4, v = .int .i64 (intoC gs k true xs.length) ∧ l' = [poB p s, fam oneA (intoG gs k true s3 ⟨s4, xs⟩), sl false s.v ((intoG gs k true s3 ⟨s4, xs⟩).map OneG.pt)] := by
 intro F K hK
 simp only [List.cons_append, List.nil_append]
 (refine Tr.enter (rs := [.tmp 6]) mixed fn93 rfl (by simp +arith [Tryz.ntmps93]) fun u => ?_; simp only [cd93, Tryz.f93])
 ((try simp only [WKb, ↓reduceIte, Nat.reduceEqDiff, Nat.reduceAdd]) <;> (repeat' ((first
  | (refine G.tr ?_; first | (refine G.call 149 ?_; refine S.c ?_ (h := into_ok ?_ ?_)) | fail)
  | rintro _ _ ⟨_, _, rfl, rfl⟩
  | ((fail_if_success refine G.tr ?_); exact G.prop S.p)
  | fail) <;> (try simp only [WKb, ↓reduceIte]))))
 all_goals
  apply Tr.fin hK ⟨_, _, rfl, rfl⟩
  ((try clear hK) <;> (try simp only [WKe, *]) <;> repeat (first | with_reducible exact EntR.done | refine S.e ?_ | refine EntR.drop (F := F) ?_ | fail))
theorem firstq_ok {b c : Nat} {i : Bool} {sz d0 d lost : Int} {s : SV} {ms : List Msg} : Trip Tryz.prog 227 [.pointer (some ⟨b, 0, none⟩)].toArray [onB b true i sz d0 (.iface 121 (.pointer (some ⟨c, 0, none⟩))) lost, quB c s d, sl false s.v ms, fzl ms]
  fun v l' => ∃ s3, v = .tuple #[(ix ms 0).s.v, .bool (!decide ((ms.length : Int) = 0))] ∧ l' = [onB b true i sz d0 (.iface 121 (.pointer (some ⟨c, 0, none⟩))) lost, quB c s3 d, sl false s3.v (ms.drop 1), fzl (ms.drop 1), Fz.fz (ix ms 0)] := by
 intro F K hK
 simp only [List.cons_append, List.nil_append]
 (refine Tr.enter (rs := [.tmp 2, .tmp 3]) mixed fn227 rfl (by simp +arith [Tryz.ntmps227]) fun u => ?_; simp only [cd227, Tryz.f227])
 ((try simp only [WKb, ↓reduceIte, Nat.reduceEqDiff]) <;> (repeat' ((first
  | (refine G.tr ?_; first | refine S.a ?_ | (refine G.call 242 ?_; refine S.c ?_ (h := qtake_ok)) | fail)
  | rintro _ _ ⟨_, rfl, rfl⟩
  | fail) <;> (try simp only [WKb, WKh, ↓reduceIte, Nat.reduceEqDiff]))))
 all_goals
  apply Tr.fin hK ⟨_, rfl, rfl⟩
  ((try clear hK) <;> (try simp only [WKe, *]) <;> repeat (first | with_reducible exact EntR.done | refine S.e ?_ | refine EntR.drop (F := F) ?_ | fail))
theorem firsts_ok {b c : Nat} {i : Bool} {sz d0 lost : Int} {m : Msg} {t f : Bool} (hn : m.d.length ≤ 1000000) : Trip Tryz.prog 227 [.pointer (some ⟨b, 0, none⟩)].toArray [onB b false i sz d0 (.iface 124 (.pointer (some ⟨c, 0, none⟩))) lost, saB c m t f, sl true m.s.v m.d]
  fun v l' => ∃ s2 : SV, v = .tuple #[s2.v, .bool t] ∧ l' = [onB b false i sz d0 (.iface 124 (.pointer (some ⟨c, 0, none⟩))) lost, saB c m t f, sl true s2.v m.d] := by
 intro F K hK
 simp only [List.cons_append, List.nil_append]
 (refine Tr.enter (rs := [.tmp 2, .tmp 3]) mixed fn227 rfl (by simp +arith [Tryz.ntmps227]) fun u => ?_; simp only [cd227, Tryz.f227])
 ((try simp only [WKb, ↓reduceIte, Nat.reduceEqDiff]) <;> (repeat' ((first
  | (refine G.tr ?_; first | refine S.a ?_ | (refine G.call 68 ?_; refine S.c ?_ (h := clone_ok (by omega))) | fail)
  | rintro _ _ ⟨_, rfl, rfl⟩
  | fail) <;> (try simp only [WKb, WKh, ↓reduceIte, Nat.reduceEqDiff, pl227]))))
 all_goals
  apply Tr.fin hK ⟨_, rfl, rfl⟩
  ((try clear hK) <;> (try simp only [WKe, *]) <;> repeat (first | with_reducible exact EntR.done | refine S.e ?_ | refine EntR.drop (F := F) ?_ | fail))
theorem out_ok {p : Nat} {s : SV} {gs : List OneG} {k : Int} {q : Bool} (hl0 : (ix gs k).m.d.length ≤ 1000000) : Trip Tryz.prog 151 [.pointer (some ⟨p, 0, none⟩), .int .i64 k, .bool q].toArray [poB p s, fam oneA gs, sl false s.v (gs.map OneG.pt)]
  fun v l' => ∃ s3 r, r.d = outD gs k q ∧ v = .tuple #[SV.v (SL.s r), .int .i64 (outC gs k q)] ∧ l' = [poB p s, fam oneA (outG gs k q s3), sl false s.v ((outG gs k q s3).map OneG.pt), Fz.fz (r : Msg)] := by
 intro F K hK
 simp only [List.cons_append, List.nil_append]
 by_cases h : inR gs k
 ·have ⟨h0, h1⟩ := h
  have hm := ix_map (f := OneG.pt) h0 h1
  have hl : (gs.map OneG.pt).length = gs.length := List.length_map _
  have hs := fun q i sz d lo c s ms m t f => map_same (f := OneG.pt) h0 h1 ⟨(ix gs k).b, q, i, sz, d, lo, c, s, ms, m, t, f⟩ rfl
  cases hc : canB gs k q true
  ·(refine Tr.enter (rs := [.tmp 6, .tmp 7]) mixed fn151 rfl (by simp +arith [Tryz.ntmps151]) fun u => ?_; simp only [cd151, Tryz.f151])
   ((try simp only [WKb, ↓reduceIte, Nat.reduceEqDiff, Nat.reduceAdd]) <;> (repeat' ((first
  | (refine G.tr ?_; first | (refine G.call 163 ?_; refine S.c ?_ (h := can_ok)) | fail)
  | rintro _ _ ⟨rfl, rfl⟩
  | fail) <;> (try simp only [WKb, ↓reduceIte, Nat.reduceEqDiff, hc]))))
   all_goals
    (apply Tr.fin hK ⟨⟨none, 0, 0⟩, default, (by first | (simp only [WKe, ↓reduceIte, Int.reduceEq, *, outC, outD]; rfl)), (by first | (simp only [WKe, ↓reduceIte, *, outC]; rfl)), rfl⟩; ((try clear hK) <;> (try simp only [WKe, outG, ↓reduceIte, *]) <;> repeat (first | with_reducible exact EntR.done | refine S.e ?_ | fail)))
  ·have hqi : (ix gs k).q = q := by
    simp [canB, h] at hc
    exact hc.1
   (refine Tr.enter (rs := [.tmp 6, .tmp 7]) mixed fn151 rfl (by simp +arith [Tryz.ntmps151]) fun u => ?_; simp only [cd151, Tryz.f151])
   ((try simp only [WKb, ↓reduceIte, Nat.reduceEqDiff, Nat.reduceAdd]) <;> (repeat' ((first
  | (refine G.tr ?_; first | refine S.a ?_ | (refine G.call 163 ?_; refine S.c ?_ (h := can_ok)) | refine S.i fun hix => ?_ | fail)
  | rintro _ _ ⟨rfl, rfl⟩
  | fail) <;> (try simp only [WKb, WKh, ↓reduceIte, Nat.reduceEqDiff, hc, hm, OneG.pt]))))
   all_goals
    refine Tr.famAt (A := oneA) k (by (repeat (first | exact TakeA.here | apply TakeA.next)); done) h0 h1 ?_
    cases hq : (ix gs k).q
    ·obtain rfl : q = false := hqi.symm.trans hq
     refine oneS_open hq ?_
     ((try simp only [WKb, WKh, ↓reduceIte, Nat.reduceEqDiff, Nat.reduceAdd, Nat.reduceSub, Int.reduceEq, Int.reduceLT, Int.reduceLE, pl151, hm, OneG.pt]) <;> (repeat' ((first
  | (refine G.tr ?_; first | (refine G.call 227 ?_; first | refine S.c ?_ (h := firsts_ok ?_)) | (refine S.s (fun hb => ?_) (fun hb => ?_) <;> ((try simp only [hb]) <;> (try (have hp := hb; simp only [WKs] at hp; (try have hq := Int.not_le.2 hp); (try have hq := Int.not_lt.2 hp))))))
  | rintro _ _ ⟨_, rfl, rfl⟩
  | ((fail_if_success refine G.tr ?_); exact G.prop S.p)
  | fail) <;> (try simp only [WKb, ↓reduceIte, Nat.reduceEqDiff]))))
     all_goals
      first | apply Tr.fin hK ⟨_, ix (ix gs k).ms 0, (by first | (simp [*, outC, outD]; done) | (simp only [WKe, ↓reduceIte, Int.reduceEq, eq_self, *, outC, outD]; done) | (simp only [WKe, ↓reduceIte, Int.reduceEq, *, outC, outD]; rfl)), (by first | (simp [*, outC, outD, hc]; done) | (simp only [WKe, ↓reduceIte, reduceCtorEq, Int.reduceEq, eq_self, *, outC, outD, hc]; done) | (simp only [WKe, ↓reduceIte, reduceCtorEq, Int.reduceEq, *, outC, outD, hc]; rfl)), rfl⟩ | apply Tr.fin hK ⟨_, default, (by first | (simp only [WKe, ↓reduceIte, Int.reduceEq, *, outC, outD]; rfl)), (by first | (simp only [WKe, ↓reduceIte, *, outC]; rfl)), rfl⟩ | apply Tr.fin hK ⟨_, SL.mk _ (ix gs k).m.d, (by first | (simp [*, outC, outD]; done) | fail), (by first | (simp only [WKe, ↓reduceIte, *, outC]; rfl)), rfl⟩
      ((try clear hK) <;> (try simp only [WKe, outG, ↓reduceIte, *]) <;> repeat (first | with_reducible exact EntR.done | refine S.e ?_ | (refine S.f ?_ <;> (try simp only [WKe, oneA, ↓reduceIte, *])) | refine EntR.drop (F := F) ?_ | fail))
      all_goals first | exact SV.mk none 0 0 | exact SL.mk ⟨none, 0, 0⟩ []
    ·obtain rfl : q = true := hqi.symm.trans hq
     refine oneQ_open hq ?_
     ((try simp only [WKb, WKh, ↓reduceIte, Nat.reduceEqDiff, Nat.reduceAdd, Nat.reduceSub, Int.reduceEq, Int.reduceLT, Int.reduceLE, pl151, hm, OneG.pt]) <;> (repeat' ((first
  | (refine G.tr ?_; first | (refine G.call 227 ?_; first | refine S.c ?_ (h := firstq_ok) | fail) | (refine S.s (fun hb => ?_) (fun hb => ?_) <;> ((try simp only [hb]) <;> (try (have hp := hb; simp only [WKs] at hp; (try have hq := Int.not_le.2 hp); (try have hq := Int.not_lt.2 hp))))))
  | rintro _ _ ⟨_, rfl, rfl⟩
  | fail) <;> (try simp only [WKb, ↓reduceIte, Nat.reduceEqDiff]))))
     all_goals
      first | apply Tr.fin hK ⟨_, ix (ix gs k).ms 0, (by first | (simp only [↓reduceIte, Int.reduceEq, eq_self, *, outC, outD]; done) | fail), (by first | (simp only [↓reduceIte, eq_self, *, outC]; done) | fail), rfl⟩ | apply Tr.fin hK ⟨_, default, (by first | (simp only [↓reduceIte, Int.reduceEq, *, outC, outD]; rfl)), (by first | (simp only [↓reduceIte, *, outC]; rfl)), rfl⟩ | apply Tr.fin hK ⟨_, SL.mk _ (ix gs k).m.d, (by first | (simp [*, outC, outD, hc]; done) | (simp only [WKe, ↓reduceIte, reduceCtorEq, Int.reduceEq, eq_self, *, outC, outD, hc]; done) | (simp only [WKe, ↓reduceIte, reduceCtorEq, Int.reduceEq, *, outC, outD, hc]; rfl)), (by first | (simp [*, outC, outD, hc]; done) | (simp only [WKe, ↓reduceIte, reduceCtorEq, Int.reduceEq, eq_self, *, outC, outD, hc]; done) | (simp only [WKe, ↓reduceIte, reduceCtorEq, Int.reduceEq, *, outC, outD, hc]; rfl)), rfl⟩
      ((try clear hK) <;> (try simp only [WKe, outG, ↓reduceIte, *]) <;> repeat (first | with_reducible exact EntR.done | refine S.e ?_ | (refine S.f ?_ <;> (try simp only [oneA, ↓reduceIte, *])) | refine EntR.drop (F := F) ?_ | fail))
      all_goals first | exact SV.mk none 0 0 | exact SL.mk ⟨none, 0, 0⟩ []
 ·have h' := h
  unfold inR at h'
  have hc : canB gs k q true = false := by simp [canB, h]
  (refine Tr.enter (rs := [.tmp 6, .tmp 7]) mixed fn151 rfl (by simp +arith [Tryz.ntmps151]) fun u => ?_; simp only [cd151, Tryz.f151])
  ((try simp only [WKb, ↓reduceIte, Nat.reduceEqDiff, Nat.reduceAdd]) <;> (repeat' ((first
  | (refine G.tr ?_; first | (refine G.call 163 ?_; refine S.c ?_ (h := can_ok)) | fail)
  | rintro _ _ ⟨rfl, rfl⟩
  | fail) <;> (try simp only [WKb, ↓reduceIte, Nat.reduceEqDiff, hc]))))
  all_goals
   (apply Tr.fin hK ⟨⟨none, 0, 0⟩, default, (by first | (simp only [WKe, ↓reduceIte, Int.reduceEq, *, outC, outD]; rfl)), (by first | (simp only [WKe, ↓reduceIte, *, outC]; rfl)), rfl⟩; ((try clear hK) <;> (try simp only [WKe, outG, ↓reduceIte, *]) <;> repeat (first | with_reducible exact EntR.done | refine S.e ?_ | fail)))
end Go.Proofs.YtacmaamllpiloaaGreat
namespace Go.Proofs.YtacmaamllpiloaaGreat
open Go Go.Wk
set_option maxHeartbeats 3200000
set_option maxRecDepth 10000
def OneG.core (g : OneG) : Bool × Bool × Int × Int × Int × SV × List Msg × Msg × Bool × Bool := (g.q, g.i, g.size, g.depth, g.lost, g.s, g.ms, g.m, g.there, g.fresh)
def portM (c : PortC) : Bool × Bool × Int × Int × Int × SV × List Msg × Msg × Bool × Bool := (c.q, c.i, c.size, c.depth, 0, ⟨none, 0, 0⟩, [], default, false, false)
def OneG.mk0 (b c : Nat) (x : PortC) : OneG := ⟨b, x.q, x.i, x.size, x.depth, 0, c, ⟨none, 0, 0⟩, [], default, false, false⟩
attribute [local irreducible] BrK GenK EGenK EUnitK CallK FnK CallV GuardO GuardC CondW opX opK opKc chkR eqR seqK blkK endL WL WD W LoopW BinK Tr drewK resL PickK NotK NilK ExtrK getK Instr.storeAt Instr.loadAt Instr.fieldAt Instr.indexAt Instr.lookup Instr.mapUpdate Instr.box Instr.alloc Instr.build Instr.buildSlice Instr.makeSlice Instr.makeMap Instr.sliceAt Instr.field Instr.index Instr.makeInterface Instr.typeAssert Builtin.len_ Builtin.append_ Builtin.cap_ Builtin.min_ Builtin.max_ Builtin.copy_ Builtin.clear_ convert binOp mp blk rob sl sep ex fact old
theorem read_ok {p : Nat} {s : SV} {gs : List OneG} {k : Int} (hl0 : (ix gs k).m.d.length ≤ 1000000) : Trip Tryz.prog 165 [.pointer (some ⟨p, 0, none⟩), .int .i64 k].toArray [poB p s, fam oneA gs, sl false s.v (gs.map OneG.pt)]
  fun v l' => ∃ s3 r, r.d = outD gs k false ∧ v = .tuple #[SV.v (SL.s r), .int .i64 (outC gs k false)] ∧ l' = [poB p s, fam oneA (outG gs k false s3), sl false s.v ((outG gs k false s3).map OneG.pt), Fz.fz (r : Msg)] := by
 intro F K hK
 simp only [List.cons_append, List.nil_append]
 (refine Tr.enter (rs := [.tmp 4, .tmp 5]) mixed fn165 rfl (by simp +arith [Tryz.ntmps165]) fun u => ?_; simp only [cd165, Tryz.f165])
 ((try simp only [WKb, ↓reduceIte, Nat.reduceEqDiff, Nat.reduceAdd]) <;> (repeat' ((first
  | (refine G.tr ?_; first | (refine G.call 151 ?_; refine S.c ?_ (h := out_ok ?_)) | fail)
  | rintro _ _ ⟨_, _, hrd, rfl, rfl⟩
  | ((fail_if_success refine G.tr ?_); exact G.prop S.p)
  | fail) <;> (try simp only [WKb, ↓reduceIte, Nat.reduceEqDiff]))))
 all_goals
  apply Tr.fin hK ⟨_, _, hrd, rfl, rfl⟩
  ((try clear hK) <;> (try simp only [WKe, *]) <;> repeat (first | with_reducible exact EntR.done | fail))
theorem receive_ok {p : Nat} {s : SV} {gs : List OneG} {k : Int} (hl0 : (ix gs k).m.d.length ≤ 1000000) : Trip Tryz.prog 95 [.pointer (some ⟨p, 0, none⟩), .int .i64 k].toArray [poB p s, fam oneA gs, sl false s.v (gs.map OneG.pt)]
  fun v l' => ∃ s3 r, r.d = outD gs k true ∧ v = .tuple #[SV.v (SL.s r), .int .i64 (outC gs k true)] ∧ l' = [poB p s, fam oneA (outG gs k true s3), sl false s.v ((outG gs k true s3).map OneG.pt), Fz.fz (r : Msg)] := by
 intro F K hK
 simp only [List.cons_append, List.nil_append]
 (refine Tr.enter (rs := [.tmp 4, .tmp 5]) mixed fn95 rfl (by simp +arith [Tryz.ntmps95]) fun u => ?_; simp only [cd95, Tryz.f95])
 ((try simp only [WKb, ↓reduceIte, Nat.reduceEqDiff, Nat.reduceAdd]) <;> (repeat' ((first
  | (refine G.tr ?_; first | (refine G.call 151 ?_; refine S.c ?_ (h := out_ok ?_)) | fail)
  | rintro _ _ ⟨_, _, hrd, rfl, rfl⟩
  | ((fail_if_success refine G.tr ?_); exact G.prop S.p)
  | fail) <;> (try simp only [WKb, ↓reduceIte, Nat.reduceEqDiff]))))
 all_goals
  apply Tr.fin hK ⟨_, _, hrd, rfl, rfl⟩
  ((try clear hK) <;> (try simp only [WKe, *]) <;> repeat (first | with_reducible exact EntR.done | fail))
theorem fill_ok {b : Nat} {q i : Bool} {sz d lost : Int} {v0 : Value} : Trip Tryz.prog 114 [.pointer (some ⟨b, 0, none⟩)].toArray [onB b q i sz d v0 lost]
  fun v l' => ∃ c, v = .tuple #[] ∧ l' = [oneA (OneG.mk0 b c ⟨q, i, sz, d⟩)] := by
 intro F K hK
 simp only [List.cons_append, List.nil_append]
 have hdm : (⟨⟨none, 0, 0⟩, []⟩ : Msg) = default := rfl
 cases q
 ·(refine Tr.enter (rs := []) mixed fn114 rfl (by simp +arith [Tryz.ntmps114]) fun u => ?_; simp only [cd114, Tryz.f114])
  ((try simp only [WKb, ↓reduceIte]) <;> (repeat' ((first
  | (refine G.tr ?_; first | refine S.a ?_ | refine S.n fun _ => ?_ | fail)
  | fail) <;> (try simp only [WKb, WKh, ↓reduceIte, Nat.reduceEqDiff, Nat.reduceAdd]))))
  all_goals
   apply Tr.fin hK ⟨_, rfl, rfl⟩
   ((try clear hK) <;> (try simp only [WKe, oneA, OneG.mk0, ↓reduceIte, *]) <;> repeat (first | with_reducible exact EntR.done | refine S.e ?_ | fail))
 ·(refine Tr.enter (rs := []) mixed fn114 rfl (by simp +arith [Tryz.ntmps114]) fun u => ?_; simp only [cd114, Tryz.f114])
  ((try simp only [WKb, ↓reduceIte]) <;> (repeat' ((first
  | (refine G.tr ?_; first | refine S.a ?_ | refine S.n fun _ => ?_ | fail)
  | fail) <;> (try simp only [WKb, WKh, ↓reduceIte, Nat.reduceEqDiff, Nat.reduceAdd]))))
  all_goals
   apply Tr.fin hK ⟨_, rfl, rfl⟩
   ((try clear hK) <;> (try simp only [WKe, oneA, OneG.mk0, ↓reduceIte, *]) <;> repeat (first | with_reducible exact EntR.done | refine S.e ?_ | fail))
theorem pnew_ok {s : SV} {cs : List PortC} : Trip Tryz.prog 53 [s.v].toArray [sl true s.v cs]
  fun v l' => ∃ p s1 gs, gs.map OneG.core = (cs.take 8).map portM ∧ v = .pointer (some ⟨p, 0, none⟩) ∧ l' = [poB p s1, fam oneA gs, sl false s1.v (gs.map OneG.pt)] := by
 intro F K hK
 simp only [List.cons_append, List.nil_append]
 have hmin : (if (8 : Int) < cs.length then (8 : Int) else cs.length) = ((min 8 cs.length : Nat) : Int) := if_min (n := 8)
 (refine Tr.enter (rs := [.tmp 2]) mixed fn53 rfl (by simp +arith [Tryz.ntmps53]) fun u => ?_; simp only [cd53, Tryz.f53])
 ((try simp only [WKb]) <;> (repeat' ((first
  | (refine G.tr ?_; first | refine S.a ?_ | refine S.n fun _ => ?_ | fail)
  | fail) <;> (try simp only [WKb, ↓reduceIte, Nat.reduceEqDiff, hmin]))))
 rename_i p s1
 refine Tr.loopE (α := Nat × SV × List OneG) [15] [2, 3, 13, 14] (fun x => [.int .i64 x.1]) (fun x => [poB p x.2.1, sl false x.2.1.v (x.2.2.map OneG.pt), fam oneA x.2.2]) (fun x => x.1 ≤ min 8 cs.length ∧ x.2.2.length = x.1 ∧ x.2.2.map OneG.core = (cs.take x.1).map portM) (fun x => min 8 cs.length - x.1) (0, ⟨none, 0, 0⟩, []) (by (repeat (first | exact TakeL.nil | (apply TakeL.cons; focus ((first | ((repeat (first | exact TakeA.here | apply TakeA.next)); done) | exact TakeA.famNil | exact TakeA.nilS))) | fail)); done) rfl ⟨by omega, rfl, rfl⟩ fun x u hx => ?_
 obtain ⟨k, s2, gs⟩ := x
 simp only at hx ⊢
 obtain ⟨hk, hl, hm⟩ := hx
 have hlt : (cs.take (((min 8 cs.length : Nat) : Int)).toNat).length = min 8 cs.length := by simp
 have hlm : (gs.map OneG.pt).length = k := by simp [hl]
 by_cases hkn : k < min 8 cs.length
 ·have hw := wrapSucc (k := k) (by omega)
  have hxt : ix (cs.take (((min 8 cs.length : Nat) : Int)).toNat) (k : Int) = ix cs (k : Int) := ix_take (by simp; omega)
  have hmk : ∀ b c, (gs ++ [OneG.mk0 b c (ix cs (k : Int))]).map OneG.core = (cs.take (k + 1)).map portM := fun b c => by rw [take_ix (by omega), List.map_append, List.map_append, hm]; rfl
  have hln : ∀ b c, (gs ++ [OneG.mk0 b c (ix cs (k : Int))]).length = k + 1 := fun b c => by simp [hl]
  ((try simp only [WKb, ↓reduceIte, Nat.reduceEqDiff]) <;> (repeat' ((first
  | (refine G.tr ?_; first | refine S.a ?_ | (refine G.call 114 ?_; refine S.c ?_ (h := fill_ok)) | refine S.n fun _ => ?_ | refine S.i fun hix => ?_ | fail)
  | rintro _ _ ⟨_, rfl, rfl⟩
  | fail) <;> (try simp only [WKb, WKh, ↓reduceIte, Nat.reduceEqDiff, hw, hxt]))))
  all_goals
   rename_i cb ob cq sA sB
   have hmk' := hmk ob cq
   have hln' := hln ob cq
   have hpt : (OneG.mk0 ob cq (ix cs (k : Int))).pt = ⟨some ob⟩ := rfl
   (apply Tr.againE (k + 1, _, gs ++ [OneG.mk0 ob cq (ix cs (k : Int))]); (focus (simp only [WKb, ↓reduceIte, Nat.reduceEqDiff])); (focus ((try simp only [WKb, ↓reduceIte]); (all_goals ((repeat (refine cons_eq (by first | rfl | ((try clear hK) <;> first | (simp [*, List.map_append, List.map_cons, List.map_nil, hpt, hw]; done) | (simp [*, List.map_append, List.map_cons, List.map_nil, hpt, hw]; omega) | (simp [*, List.map_append, List.map_cons, List.map_nil, hpt, hw] <;> (try split) <;> simp_all <;> omega))) ?_)); rfl)); done)); (focus (first | ((try simp only []); (repeat' (first | omega | refine And.intro ?_ ?_)); done))); (focus (first | omega | fail)); (focus (((try clear hK) <;> (try simp only [WKe, List.map_append, List.map_cons, List.map_nil, *]) <;> repeat (first | with_reducible exact EntR.done | refine S.e ?_ | (refine S.f ?_ <;> (try simp only [WKe, List.map_append, List.map_cons, List.map_nil, hpt, hw, ↓reduceIte, reduceCtorEq, Int.reduceEq, *])) | refine EntR.drop (F := F) ?_ | fail)))))
 ·have hkk : k = min 8 cs.length := by omega
  ((try simp only [WKb, ↓reduceIte, Nat.reduceEqDiff]) <;> (repeat' ((first
  | (refine G.tr ?_; first | refine S.a ?_ | fail)
  | fail) <;> (try simp only [WKb, ↓reduceIte, Nat.reduceEqDiff]))))
  all_goals
   apply Tr.fin hK ⟨_, _, gs, by rw [hm, hkk, take_minlen], rfl, rfl⟩
   ((try clear hK) <;> (try simp only [WKe, *]) <;> repeat (first | with_reducible exact EntR.done | refine S.e ?_ | refine EntR.drop (F := F) ?_ | fail))
theorem drain_ok {p : Nat} {s : SV} {gs : List OneG} {k : Int} (hl0 : (ix gs k).m.d.length ≤ 1000000) : Trip Tryz.prog 24 [.pointer (some ⟨p, 0, none⟩), .int .i64 k].toArray [poB p s, fam oneA gs, sl false s.v (gs.map OneG.pt)]
  fun v l' => ∃ r : SL Msg, r.d.map SL.d = drainD gs k ∧ v = SV.v (SL.s r) ∧ l' = [poB p s, fam oneA (drainG gs k), sl false s.v ((drainG gs k).map OneG.pt), sl false (SV.v (SL.s r)) (SL.d r), fzl (SL.d r)] := by
 intro F K hK
 simp only [List.cons_append, List.nil_append]
 by_cases h : inR gs k
 ·have ⟨h0, h1⟩ := h
  have hm := ix_map (f := OneG.pt) h0 h1
  have hl : (gs.map OneG.pt).length = gs.length := List.length_map _
  have hs := fun q i sz d lo c s ms m t f => map_same (f := OneG.pt) h0 h1 ⟨(ix gs k).b, q, i, sz, d, lo, c, s, ms, m, t, f⟩ rfl
  refine Tr.famAt (A := oneA) k (by (repeat (first | exact TakeA.here | apply TakeA.next)); done) h0 h1 ?_
  cases hq : (ix gs k).q
  ·refine oneS_open hq ?_
   (refine Tr.enter (rs := [.tmp 4]) mixed fn24 rfl (by simp +arith [Tryz.ntmps24]) fun u => ?_; simp only [cd24, Tryz.f24])
   ((try simp only [WKb, ↓reduceIte, Nat.reduceEqDiff, Nat.reduceAdd]) <;> (repeat' ((first
  | (refine G.tr ?_; first | refine S.a ?_ | (refine G.call 67 ?_; first | refine S.c ?_ (h := find_in (by omega) (by omega)) | fail) | (refine G.call 68 ?_; refine S.c ?_ (h := clone_ok (by omega))) | refine S.n fun _ => ?_ | (refine S.s (fun hb => ?_) (fun hb => ?_) <;> ((try simp only [hb]) <;> (try (have hp := hb; simp only [WKs] at hp; (try have hq := Int.not_le.2 hp); (try have hq := Int.not_lt.2 hp))))))
  | rintro _ _ ⟨rfl, rfl⟩
  | rintro _ _ ⟨_, rfl, rfl⟩
  | fail) <;> (try simp only [WKb, WKh, ↓reduceIte, Nat.reduceEqDiff, Nat.reduceAdd]))))
   all_goals
    (first | apply Tr.fin hK ⟨⟨⟨none, 0, 0⟩, []⟩, (by first | (simp [*, drainD]; done) | fail), rfl, rfl⟩ | apply Tr.fin hK ⟨⟨_, [SL.mk _ (ix gs k).m.d]⟩, (by first | (simp [*, drainD]; done) | fail), rfl, rfl⟩)
    ((try clear hK) <;> (try simp only [WKe, drainG, ↓reduceIte, *]) <;> repeat (first | with_reducible exact EntR.done | refine S.e ?_ | (refine S.f ?_ <;> (try simp only [WKe, oneA, ↓reduceIte, *])) | refine EntR.drop (F := F) ?_ | fail))
    all_goals first | exact SV.mk none 0 0 | exact SL.mk ⟨none, 0, 0⟩ []
  ·refine oneQ_open hq ?_
   (refine Tr.enter (rs := [.tmp 4]) mixed fn24 rfl (by simp +arith [Tryz.ntmps24]) fun u => ?_; simp only [cd24, Tryz.f24])
   ((try simp only [WKb, ↓reduceIte, Nat.reduceEqDiff, Nat.reduceAdd]) <;> (repeat' ((first
  | (refine G.tr ?_; first | refine S.a ?_ | (refine G.call 67 ?_; first | refine S.c ?_ (h := find_in (by omega) (by omega)) | fail) | (refine S.s (fun hb => ?_) (fun hb => ?_) <;> ((try simp only [hb]) <;> (try (have hp := hb; simp only [WKs] at hp; (try have hq := Int.not_le.2 hp); (try have hq := Int.not_lt.2 hp))))))
  | rintro _ _ ⟨rfl, rfl⟩
  | fail) <;> (try simp only [WKb, WKh, ↓reduceIte, Nat.reduceEqDiff]))))
   all_goals
    (first | apply Tr.fin hK ⟨⟨⟨none, 0, 0⟩, []⟩, (by first | (simp [*, drainD]; done) | fail), rfl, rfl⟩ | apply Tr.fin hK ⟨⟨(ix gs k).s, (ix gs k).ms⟩, (by first | (simp [*, drainD]; done) | fail), rfl, rfl⟩ | fail)
    ((try clear hK) <;> (try simp only [WKe, drainG, ↓reduceIte, *]) <;> repeat (first | with_reducible exact EntR.done | refine S.e ?_ | (refine S.f ?_ <;> (try simp only [oneA, ↓reduceIte, *])) | fail))
    all_goals first | exact SV.mk none 0 0 | exact SL.mk ⟨none, 0, 0⟩ []
 ·have h' := h
  unfold inR at h'
  (refine Tr.enter (rs := [.tmp 4]) mixed fn24 rfl (by simp +arith [Tryz.ntmps24]) fun u => ?_; simp only [cd24, Tryz.f24])
  ((try simp only [WKb, ↓reduceIte, Nat.reduceEqDiff, Nat.reduceAdd]) <;> (repeat' ((first
  | (refine G.tr ?_; first | (refine G.call 67 ?_; first | refine S.c ?_ (h := find_out (by omega))) | fail)
  | rintro _ _ ⟨rfl, rfl⟩
  | fail) <;> (try simp only [WKb, ↓reduceIte, Nat.reduceEqDiff]))))
  all_goals
   (first | apply Tr.fin hK ⟨⟨⟨none, 0, 0⟩, []⟩, (by first | (simp [*, drainD]; done) | fail), rfl, rfl⟩ | fail)
   ((try clear hK) <;> (try simp only [WKe, drainG, ↓reduceIte, *]) <;> repeat (first | with_reducible exact EntR.done | refine S.e ?_ | fail))
   all_goals first | exact SV.mk none 0 0 | exact SL.mk ⟨none, 0, 0⟩ []
theorem core_mk {g : OneG} {x : PortC} (h : g.core = portM x) : g = OneG.mk0 g.b g.c x := by
 obtain ⟨b, q, i, sz, d, lo, c, s, ms, m, t, f⟩ := g
 simp only [OneG.core, portM, Prod.mk.injEq] at h
 obtain ⟨rfl, rfl, rfl, rfl, rfl, rfl, rfl, rfl, rfl, rfl⟩ := h
 rfl
end Go.Proofs.YtacmaamllpiloaaGreat
namespace Go.Proofs.YtacmaamllpiloaaGreat
open Go Go.Wk
set_option maxHeartbeats 3200000
set_option maxRecDepth 10000
theorem read2_ok {p : Nat} {s : SV} {gs : List OneG} {k : Int} (hl0 : (ix gs k).m.d.length ≤ 1000000) : Trip Tryz.prog 165 [.pointer (some ⟨p, 0, none⟩), .int .i64 k].toArray [poB p s, fam oneA gs, sl false s.v (gs.map OneG.pt)]
  fun v l' => ∃ s3 s4, v = .tuple #[SV.v s4, .int .i64 (outC gs k false)] ∧ l' = [poB p s, fam oneA (outG gs k false s3), sl false s.v ((outG gs k false s3).map OneG.pt), Fz.fz (SL.mk s4 (outD gs k false) : Msg)] := by
 refine Trip.mono (read_ok hl0) ?_
 rintro v l' ⟨s3, ⟨s4, d⟩, h, rfl, rfl⟩
 have h' : d = outD gs k false := h
 subst h'
 exact ⟨s3, s4, rfl, rfl⟩
theorem receive2_ok {p : Nat} {s : SV} {gs : List OneG} {k : Int} (hl0 : (ix gs k).m.d.length ≤ 1000000) : Trip Tryz.prog 95 [.pointer (some ⟨p, 0, none⟩), .int .i64 k].toArray [poB p s, fam oneA gs, sl false s.v (gs.map OneG.pt)]
  fun v l' => ∃ s3 s4, v = .tuple #[SV.v s4, .int .i64 (outC gs k true)] ∧ l' = [poB p s, fam oneA (outG gs k true s3), sl false s.v ((outG gs k true s3).map OneG.pt), Fz.fz (SL.mk s4 (outD gs k true) : Msg)] := by
 refine Trip.mono (receive_ok hl0) ?_
 rintro v l' ⟨s3, ⟨s4, d⟩, h, rfl, rfl⟩
 have h' : d = outD gs k true := h
 subst h'
 exact ⟨s3, s4, rfl, rfl⟩
instance {l : List Asrt} : De l (.int .u8 120) (120 : UInt8) := ⟨rfl⟩
instance {l : List Asrt} : De l (.int .u8 121) (121 : UInt8) := ⟨rfl⟩
instance hass_msg {l : List Asrt} {s : SV} {d : List UInt8} : HasS (Fz.fz (SL.mk s d : Msg) :: l) s.v true UInt8 inferInstance d := hass_sl (x := (SL.mk s d : Msg))
section
variable {b c : Nat} {s s2 : SV} {m m2 m3 : Msg} {n : Nat} {lo : Int} {ms : List Msg}
abbrev g4 (b c : Nat) (lo : Int) (s : SV) (ms : List Msg) : OneG := ⟨b, true, true, 4, 1, lo, c, s, ms, default, false, false⟩
end
attribute [local irreducible] BrK GenK EGenK EUnitK CallK FnK CallV GuardO GuardC CondW opX opK opKc chkR eqR seqK blkK endL WL WD W LoopW BinK Tr drewK resL PickK NotK NilK ExtrK getK Instr.storeAt Instr.loadAt Instr.fieldAt Instr.indexAt Instr.lookup Instr.mapUpdate Instr.box Instr.alloc Instr.build Instr.buildSlice Instr.makeSlice Instr.makeMap Instr.sliceAt Instr.field Instr.index Instr.makeInterface Instr.typeAssert Builtin.len_ Builtin.append_ Builtin.cap_ Builtin.min_ Builtin.max_ Builtin.copy_ Builtin.clear_ convert binOp mp blk rob sl sep ex fact old
end Go.Proofs.YtacmaamllpiloaaGreat
