import Derived.Test.YtlmcoiloepoggaaON
namespace Go.Proofs.Ytlmcoiloepoggaa
open Go Go.Wk
set_option maxHeartbeats 6400000
set_option maxRecDepth 10000
attribute [local irreducible] BrK GenK EGenK EUnitK CallK FnK CallV GuardO GuardC CondW opX opK opKc chkR eqR seqK blkK endL WL WD W LoopW BinK Tr drewK resL PickK NotK NilK ExtrK getK Instr.storeAt Instr.loadAt Instr.fieldAt Instr.indexAt Instr.lookup Instr.mapUpdate Instr.box Instr.alloc Instr.build Instr.buildSlice Instr.makeSlice Instr.makeMap Instr.sliceAt Instr.field Instr.index Instr.makeInterface Instr.typeAssert Builtin.len_ Builtin.append_ Builtin.cap_ Builtin.min_ Builtin.max_ Builtin.copy_ Builtin.clear_ convert binOp mp blk rob sl sep ex fact old
theorem like20_ok {r b : Nat} {o po : ObW} {gS : List SemG} {gF : List FlagG} {gP : List PoolG} {gL : List SlateG} {xs ys : List (SL Msg)} {cp : List PoolC} {cl : List Int} (hx : xs.map mo = gP.map PoolG.mm) (hy : ys.map mo = gL.map SlateG.mm)
    (hcp : ∀ k : Int, inR gP k → k < cp.length ∧ (ix cp k).size = (ix gP k).size ∧ (ix cp k).depth = (ix gP k).depth) (hcl : ∀ k : Int, inR gL k → k < cl.length ∧ ix cl k = (ix gL k).size) :
    Trip Try.prog 63 [.pointer (some ⟨b, 0, none⟩), .pointer (some ⟨r, 0, none⟩)].toArray [obB b po, sl false po.ss.v (gS.map SemG.pt), fam semA gS, sl false po.fs.v (gF.map FlagG.pt), fam flagA gF, sl false po.ps.v (gP.map PoolG.pt), fam poolA gP, sl false po.ls.v (gL.map SlateG.pt), fam slateA gL, rOB r o, sl false o.ss.v (gS.map SemG.count), sl false o.fs.v (gF.map FlagG.up), sl false o.ps.v xs, fzl xs, sl false o.ls.v ys, fzl ys, sl true o.c.pools.v cp, sl true o.c.slates.v cl]
    fun v l' => v = .bool true ∧ l' = [obB b po, sl false po.ss.v (gS.map SemG.pt), fam semA gS, sl false po.fs.v (gF.map FlagG.pt), fam flagA gF, sl false po.ps.v (gP.map PoolG.pt), fam poolA gP, sl false po.ls.v (gL.map SlateG.pt), fam slateA gL, rOB r o, sl false o.ss.v (gS.map SemG.count), sl false o.fs.v (gF.map FlagG.up), sl false o.ps.v xs, fzl xs, sl false o.ls.v ys, fzl ys] := by
  intro F K hK
  simp only [List.cons_append, List.nil_append]
  have hl1 : (gS.map SemG.count).length = gS.length := List.length_map _
  (refine Tr.enter (rs := [.tmp 4]) mixed fn63 rfl (by simp +arith [Try.ntmps63]) fun u => ?_; simp only [cd63, Try.f63])
  ((try simp only [WKb, Nat.reduceAdd]) <;> (repeat' ((first
    | (refine G.tr ?_; first | refine S.a ?_ | refine Tr.brK ?_ ?_ | (refine G.call 65 ?_; refine S.c ?_ (h := up_ok)) | (refine G.call 114 ?_; refine S.c ?_ (h := rup_ok)) | (refine G.call 19 ?_; refine S.c ?_ (h := count_ok)) | (refine G.call 66 ?_; refine S.c ?_ (h := size_ok)) | (refine G.call 115 ?_; refine S.c ?_ (h := rsize_ok ?_ ?_ ?_ ?_)) | refine S.n fun _ => ?_ | refine S.i fun hix => ?_ | (refine S.g fun hb => ?_; (try simp only [hb])) | (refine S.s (fun hb => ?_) (fun hb => ?_) <;> ((try simp only [hb]) <;> (try (have hp := hb; simp only [WKs] at hp; (try have hq := Int.not_le.2 hp); (try have hq := Int.not_lt.2 hp))))))
    | rintro _ _ ⟨rfl, rfl⟩
    | ((fail_if_success refine G.tr ?_); exact G.prop S.p)
    | fail) <;> (try simp only [WKb, WKh, ↓reduceIte, Nat.reduceEqDiff, Nat.reduceAdd, Nat.reduceSub, Int.reduceEq, Int.reduceLT, Int.reduceLE, pl63]))))
  refine Tr.loopE (α := Nat) [4, 5] [0, 1] (fun j => [.bool false, .int .i64 ((j : Int) - 1)]) (fun _ => []) (fun j => j ≤ 10) (fun j => 10 - j) 0 (by (repeat (first | exact TakeL.nil | (apply TakeL.cons; focus ((first | exact TakeA.dupS | exact TakeA.dupF | ((repeat (first | with_reducible exact TakeA.here | exact TakeA.fam (by omega) (by omega) | with_reducible apply TakeA.next)); done) | ((repeat (first | exact TakeA.here | apply TakeA.next)); done) | exact TakeA.famNil | exact TakeA.nilS))) | fail)); done) rfl (by omega) fun j u hj => ?_
  have hw : IntKind.i64.wrap ((j : Int) - 1 + 1) = ((j + 1 : Nat) : Int) - 1 := by rw [wrapId (by omega) (by omega)]; omega
  by_cases hin : j < 10
  · by_cases h : inR gS ((j : Int) - 1)
    · have ⟨h0, h1'⟩ := h
      have hm := ix_map (f := SemG.count) h0 h1'
      have hc : countC gS ((j : Int) - 1) = (ix gS ((j : Int) - 1)).count := by simp [countC, h]
      ((try simp only [WKb, ↓reduceIte, Nat.reduceEqDiff]) <;> (repeat' ((first
    | (refine G.tr ?_; first | (refine G.call 115 ?_; refine S.c ?_ (h := rsize_ok hx hy hcp hcl)) | refine S.a ?_ | refine Tr.brK ?_ ?_ | (refine G.call 65 ?_; refine S.c ?_ (h := up_ok)) | (refine G.call 114 ?_; refine S.c ?_ (h := rup_ok)) | (refine G.call 19 ?_; refine S.c ?_ (h := count_ok)) | (refine G.call 66 ?_; refine S.c ?_ (h := size_ok)) | (refine G.call 115 ?_; refine S.c ?_ (h := rsize_ok ?_ ?_ ?_ ?_)) | refine S.n fun _ => ?_ | refine S.i fun hix => ?_ | (refine S.g fun hb => ?_; (try simp only [hb])) | (refine S.s (fun hb => ?_) (fun hb => ?_) <;> ((try simp only [hb]) <;> (try (have hp := hb; simp only [WKs] at hp; (try have hq := Int.not_le.2 hp); (try have hq := Int.not_lt.2 hp))))))
    | rintro _ _ ⟨rfl, rfl⟩
    | ((fail_if_success refine G.tr ?_); exact G.prop S.p)
    | fail) <;> (try simp only [WKb, ↓reduceIte, Nat.reduceEqDiff, hw, hm, hc]))))
      all_goals (apply Tr.againE (j + 1); (focus (simp only [WKb, ↓reduceIte, Nat.reduceEqDiff])); (focus ((try simp only [WKb, ↓reduceIte, Nat.reduceEqDiff]); (all_goals ((repeat (refine cons_eq (by first | rfl | (simp [*]; done)) ?_)); rfl)); done)); (focus (first | omega | assumption | (simp only []; omega) | (refine ⟨by omega, by assumption⟩) | (simp only []; refine ⟨by omega, by assumption⟩) | ((try simp only []); (repeat' (first | omega | assumption | refine And.intro ?_ ?_)); done))); (focus (first | omega | (simp only []; omega))); (focus (((try clear hK) <;> (try simp only [WKe, *]) <;> repeat (first | with_reducible exact EntR.done | refine S.e ?_ | (refine S.f ?_ <;> (try simp only [WKe, ↓reduceIte, reduceCtorEq, Int.reduceEq, *])) | with_reducible apply EntR.ex | refine EntR.drop (F := F) ?_ | refine EntR.drop ?_)))))
    · have h' := h
      unfold inR at h'
      have hc : countC gS ((j : Int) - 1) = 0 := by simp [countC, h]
      ((try simp only [WKb, ↓reduceIte, Nat.reduceEqDiff]) <;> (repeat' ((first
    | (refine G.tr ?_; first | (refine G.call 115 ?_; refine S.c ?_ (h := rsize_ok hx hy hcp hcl)) | refine S.a ?_ | refine Tr.brK ?_ ?_ | (refine G.call 65 ?_; refine S.c ?_ (h := up_ok)) | (refine G.call 114 ?_; refine S.c ?_ (h := rup_ok)) | (refine G.call 19 ?_; refine S.c ?_ (h := count_ok)) | (refine G.call 66 ?_; refine S.c ?_ (h := size_ok)) | (refine G.call 115 ?_; refine S.c ?_ (h := rsize_ok ?_ ?_ ?_ ?_)) | refine S.n fun _ => ?_ | refine S.i fun hix => ?_ | (refine S.g fun hb => ?_; (try simp only [hb])) | (refine S.s (fun hb => ?_) (fun hb => ?_) <;> ((try simp only [hb]) <;> (try (have hp := hb; simp only [WKs] at hp; (try have hq := Int.not_le.2 hp); (try have hq := Int.not_lt.2 hp))))))
    | rintro _ _ ⟨rfl, rfl⟩
    | ((fail_if_success refine G.tr ?_); exact G.prop S.p)
    | fail) <;> (try simp only [WKb, ↓reduceIte, Nat.reduceEqDiff, hw, hc]))))
      all_goals (apply Tr.againE (j + 1); (focus (simp only [WKb, ↓reduceIte, Nat.reduceEqDiff])); (focus ((try simp only [WKb, ↓reduceIte, Nat.reduceEqDiff]); (all_goals ((repeat (refine cons_eq (by first | rfl | (simp [*]; done)) ?_)); rfl)); done)); (focus (first | omega | assumption | (simp only []; omega) | (refine ⟨by omega, by assumption⟩) | (simp only []; refine ⟨by omega, by assumption⟩) | ((try simp only []); (repeat' (first | omega | assumption | refine And.intro ?_ ?_)); done))); (focus (first | omega | (simp only []; omega))); (focus (((try clear hK) <;> (try simp only [WKe, *]) <;> repeat (first | with_reducible exact EntR.done | refine S.e ?_ | (refine S.f ?_ <;> (try simp only [WKe, ↓reduceIte, reduceCtorEq, Int.reduceEq, *])) | with_reducible apply EntR.ex | refine EntR.drop (F := F) ?_ | refine EntR.drop ?_)))))
  · ((try simp only [WKb, ↓reduceIte, Nat.reduceEqDiff]) <;> (repeat' ((first
    | (refine G.tr ?_; first | refine S.a ?_ | refine Tr.brK ?_ ?_ | (refine G.call 65 ?_; refine S.c ?_ (h := up_ok)) | (refine G.call 114 ?_; refine S.c ?_ (h := rup_ok)) | (refine G.call 19 ?_; refine S.c ?_ (h := count_ok)) | (refine G.call 66 ?_; refine S.c ?_ (h := size_ok)) | (refine G.call 115 ?_; refine S.c ?_ (h := rsize_ok ?_ ?_ ?_ ?_)) | refine S.n fun _ => ?_ | refine S.i fun hix => ?_ | (refine S.g fun hb => ?_; (try simp only [hb])) | (refine S.s (fun hb => ?_) (fun hb => ?_) <;> ((try simp only [hb]) <;> (try (have hp := hb; simp only [WKs] at hp; (try have hq := Int.not_le.2 hp); (try have hq := Int.not_lt.2 hp))))))
    | rintro _ _ ⟨rfl, rfl⟩
    | ((fail_if_success refine G.tr ?_); exact G.prop S.p)
    | fail) <;> (try simp only [WKb, ↓reduceIte]))))
    all_goals
      refine Tr.fin hK ⟨rfl, rfl⟩ ?_
      ((try clear hK) <;> (try simp only [WKe, *]) <;> repeat (first | with_reducible exact EntR.done | refine S.e ?_ | (refine S.f ?_ <;> (try simp only [WKe, ↓reduceIte, reduceCtorEq, Int.reduceEq, *])) | with_reducible apply EntR.ex | refine EntR.drop (F := F) ?_ | refine EntR.drop ?_))
theorem rclear20_ok {r : Nat} {o : ObW} {gS : List SemG} {gF : List FlagG} {xs ys : List (SL Msg)} {cs : List SemC} {cp : List PoolC} {cl : List Int} : Trip Try.prog 113 [.pointer (some ⟨r, 0, none⟩)].toArray [rOB r o, sl false o.ss.v (gS.map SemG.count), sl false o.fs.v (gF.map FlagG.up), sl false o.ps.v xs, fzl xs, sl false o.ls.v ys, fzl ys, sl true o.c.sems.v cs, sl true o.c.pools.v cp, sl true o.c.slates.v cl]
    fun v l' => ∃ s1 s2 s3 s4, v = .tuple #[] ∧ l' = [rOB r ⟨o.c, s1, s2, s3, s4⟩, sl false (SV.v s1) ((cs.take 4).map SemC.first), sl false (SV.v s2) (List.replicate (nflags o.c.flags) false),
      sl false (SV.v s3) (List.replicate (min 4 cp.length) (default : SL Msg)), fzl (List.replicate (min 4 cp.length) (default : SL Msg)), sl false (SV.v s4) (List.replicate (min 4 cl.length) (default : SL Msg)), fzl (List.replicate (min 4 cl.length) (default : SL Msg))] := by
  intro F K hK
  obtain ⟨⟨c1, c2, c3, c4, c5, c6, c7, c8, c9, c10, c11⟩, s1, s2, s3, s4⟩ := o
  simp only [List.cons_append, List.nil_append]
  (refine Tr.enter (rs := []) mixed fn113 rfl (by simp +arith [Try.ntmps113]) fun u => ?_; simp only [cd113, Try.f113])
  ((try simp only [WKb, ↓reduceIte, Nat.reduceEqDiff]) <;> (repeat' ((first
    | (refine G.tr ?_; first | (refine G.call 61 ?_; refine S.c ?_ (h := rnew20e_ok (c := ⟨c1, c2, c3, c4, c5, c6, c7, c8, c9, c10, c11⟩))) | refine S.a ?_ | refine Tr.brK ?_ ?_ | (refine G.call 61 ?_; refine S.c ?_ (h := rnew20_ok)) | (refine G.call 137 ?_; refine S.c ?_ (h := rbecome_ok)) | refine S.n fun _ => ?_ | refine S.i fun hix => ?_ | (refine S.g fun hb => ?_; (try simp only [hb])) | (refine S.s (fun hb => ?_) (fun hb => ?_) <;> ((try simp only [hb]) <;> (try (have hp := hb; simp only [WKs] at hp; (try have hq := Int.not_le.2 hp); (try have hq := Int.not_lt.2 hp))))))
    | rintro _ _ ⟨rfl, rfl⟩
    | rintro _ _ ⟨_, _, _, _, _, rfl, rfl⟩
    | ((fail_if_success refine G.tr ?_); exact G.prop S.p)
    | fail) <;> (try simp only [WKb, ↓reduceIte, Nat.reduceEqDiff]))))
  all_goals
    apply Tr.fin hK ⟨_, _, _, _, rfl, rfl⟩
    ((try clear hK) <;> (try simp only [WKe, *]) <;> repeat (first | with_reducible exact EntR.done | refine S.e ?_ | (refine S.f ?_ <;> (try simp only [WKe, ↓reduceIte, reduceCtorEq, Int.reduceEq, *])) | with_reducible apply EntR.ex | refine EntR.drop (F := F) ?_ | refine EntR.drop ?_))
end Go.Proofs.Ytlmcoiloepoggaa
