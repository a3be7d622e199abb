import Derived.Test.YtlmcoiloepoggaaOJ
namespace Go.Proofs.Ytlmcoiloepoggaa
open Go Go.Wk
set_option maxHeartbeats 6400000
set_option maxRecDepth 10000
def mo (x : SL Msg) : List (List UInt8) := x.d.map SL.d
def PoolG.mm (g : PoolG) : List (List UInt8) := g.ms.map SL.d
def SlateG.mm (g : SlateG) : List (List UInt8) := if g.shown = true then [g.m.d] else []
theorem map_keep {α β : Type} [Inhabited α] {f : α → β} {ps : List α} {k : Int} (h0 : 0 ≤ k) (h1 : k < ps.length) : (ps.map f).set k.toNat (f (ix ps k)) = ps.map f := by rw [← List.map_set]; exact map_same h0 h1 _ rfl
attribute [local irreducible] BrK GenK EGenK EUnitK CallK FnK CallV GuardO GuardC CondW opX opK opKc chkR eqR seqK blkK endL WL WD W LoopW BinK Tr drewK resL PickK NotK NilK ExtrK getK Instr.storeAt Instr.loadAt Instr.fieldAt Instr.indexAt Instr.lookup Instr.mapUpdate Instr.box Instr.alloc Instr.build Instr.buildSlice Instr.makeSlice Instr.makeMap Instr.sliceAt Instr.field Instr.index Instr.makeInterface Instr.typeAssert Builtin.len_ Builtin.append_ Builtin.cap_ Builtin.min_ Builtin.max_ Builtin.copy_ Builtin.clear_ convert binOp mp blk rob sl sep ex fact old
theorem rbecome_ok {r r2 : Nat} {o o2 : ObW} : Trip Try.prog 137 [.pointer (some ⟨r, 0, none⟩), .pointer (some ⟨r2, 0, none⟩)].toArray [rOB r o, rOB r2 o2]
    fun v l' => v = .tuple #[] ∧ l' = [rOB r ⟨o.c, o2.ss, o2.fs, o2.ps, o2.ls⟩] := by
  intro F K hK
  simp only [List.cons_append, List.nil_append]
  (refine Tr.enter (rs := []) mixed fn137 rfl (by simp +arith [Try.ntmps137]) fun u => ?_; simp only [cd137, Try.f137])
  ((try simp only [WKb, ↓reduceIte, Nat.reduceEqDiff, Nat.reduceAdd]) <;> (repeat' ((first
    | (refine G.tr ?_; first | refine S.a ?_ | refine Tr.brK ?_ ?_ | refine S.n fun _ => ?_ | refine S.i fun hix => ?_ | (refine S.g fun hb => ?_; (try simp only [hb])) | (refine S.s (fun hb => ?_) (fun hb => ?_) <;> ((try simp only [hb]) <;> (try (have hp := hb; simp only [WKs] at hp; (try have hq := Int.not_le.2 hp); (try have hq := Int.not_lt.2 hp))))))
    | ((fail_if_success refine G.tr ?_); exact G.prop S.p)
    | fail) <;> (try simp only [WKb, ↓reduceIte, Nat.reduceEqDiff, Nat.reduceAdd]))))
  all_goals
    refine Tr.fin hK ⟨rfl, rfl⟩ ?_
    ((try clear hK) <;> (try simp only [WKe, *]) <;> repeat (first | with_reducible exact EntR.done | refine S.e ?_ | (refine S.f ?_ <;> (try simp only [WKe, ↓reduceIte, reduceCtorEq, Int.reduceEq, *])) | with_reducible apply EntR.ex | refine EntR.drop (F := F) ?_ | refine EntR.drop ?_))

theorem rtake_ok {r : Nat} {o : ObW} {gS : List SemG} {gF : List FlagG} {xs ys : List (SL Msg)} {k : Int} (h1 : gS.length ≤ 100000) (h2 : gF.length ≤ 100000) (h3 : xs.length ≤ 100000) (h4 : ys.length ≤ 100000) :
    Trip Try.prog 104 [.pointer (some ⟨r, 0, none⟩), .int .i64 k].toArray [rOB r o, sl false o.ss.v (gS.map SemG.count), sl false o.fs.v (gF.map FlagG.up), sl false o.ps.v xs, fzl xs, sl false o.ls.v ys, fzl ys]
    fun v l' => ∃ a b c d, v = .int .i64 (takeC gS k) ∧ l' = [rOB r ⟨o.c, a, b, c, d⟩, sl false (SV.v a) ((takeG gS k).map SemG.count), sl false (SV.v b) ((gF).map FlagG.up), sl false (SV.v c) xs, fzl xs, sl false (SV.v d) ys, fzl ys] := by
  intro F K hK
  simp only [List.cons_append, List.nil_append]
  have hl1 : (gS.map SemG.count).length = gS.length := List.length_map _
  have hl2 : (gF.map FlagG.up).length = gF.length := List.length_map _
  (refine Tr.enter (rs := [.tmp 4]) mixed fn104 rfl (by simp +arith [Try.ntmps104]) fun u => ?_; simp only [cd104, Try.f104])
  by_cases h : inR gS k
  · have ⟨h0, h1'⟩ := h
    have hm := ix_map (f := SemG.count) h0 h1'
    by_cases hc : (ix gS k).count < 1
    · have hI : takeG gS k = gS := by simp [takeG, h, hc]
      ((try simp only [WKb, ↓reduceIte, Nat.reduceEqDiff, Nat.reduceAdd]) <;> (repeat' ((first
    | (refine G.tr ?_; first | refine S.a ?_ | refine Tr.brK ?_ ?_ | (refine G.call 136 ?_; refine S.c ?_ (h := rclone_ok ?_ ?_ ?_ ?_)) | (refine G.call 137 ?_; refine S.c ?_ (h := rbecome_ok)) | refine S.n fun _ => ?_ | refine S.i fun hix => ?_ | (refine S.g fun hb => ?_; (try simp only [hb])) | (refine S.s (fun hb => ?_) (fun hb => ?_) <;> ((try simp only [hb]) <;> (try (have hp := hb; simp only [WKs] at hp; (try have hq := Int.not_le.2 hp); (try have hq := Int.not_lt.2 hp))))))
    | rintro _ _ ⟨rfl, rfl⟩
    | rintro _ _ ⟨_, _, _, _, _, rfl, rfl⟩
    | ((fail_if_success refine G.tr ?_); exact G.prop S.p)
    | fail) <;> (try simp only [WKb, ↓reduceIte, Nat.reduceEqDiff, hm]))))
      all_goals
        apply Tr.fin hK ⟨o.ss, o.fs, o.ps, o.ls, (by first | (simp [*, takeC]; done) | (simp only [WKe, ↓reduceIte, reduceCtorEq, Int.reduceEq, eq_self, *, takeC, h, hc]; done) | (simp only [WKe, ↓reduceIte, reduceCtorEq, Int.reduceEq, *, takeC, h, hc]; rfl)), rfl⟩
        ((try clear hK) <;> (try simp only [WKe, *]) <;> repeat (first | with_reducible exact EntR.done | refine S.e ?_ | (refine S.f ?_ <;> (try simp only [WKe, hI, ↓reduceIte, reduceCtorEq, Int.reduceEq, *])) | with_reducible apply EntR.ex | refine EntR.drop (F := F) ?_ | refine EntR.drop ?_))
    · have hI : takeG gS k = gS.set k.toNat { ix gS k with count := IntKind.i64.wrap ((ix gS k).count - 1) } := by simp [takeG, h, hc]
      ((try simp only [WKb, ↓reduceIte, Nat.reduceEqDiff, Nat.reduceAdd]) <;> (repeat' ((first
    | (refine G.tr ?_; first | refine S.a ?_ | refine Tr.brK ?_ ?_ | (refine G.call 136 ?_; refine S.c ?_ (h := rclone_ok ?_ ?_ ?_ ?_)) | (refine G.call 137 ?_; refine S.c ?_ (h := rbecome_ok)) | refine S.n fun _ => ?_ | refine S.i fun hix => ?_ | (refine S.g fun hb => ?_; (try simp only [hb])) | (refine S.s (fun hb => ?_) (fun hb => ?_) <;> ((try simp only [hb]) <;> (try (have hp := hb; simp only [WKs] at hp; (try have hq := Int.not_le.2 hp); (try have hq := Int.not_lt.2 hp))))))
    | rintro _ _ ⟨rfl, rfl⟩
    | rintro _ _ ⟨_, _, _, _, _, rfl, rfl⟩
    | ((fail_if_success refine G.tr ?_); exact G.prop S.p)
    | fail) <;> (try simp only [WKb, ↓reduceIte, Nat.reduceEqDiff, pl104, hm]))))
      all_goals
        apply Tr.fin hK ⟨_, _, _, _, (by first | (simp [*, takeC]; done) | (simp only [WKe, ↓reduceIte, reduceCtorEq, Int.reduceEq, eq_self, *, takeC, h, hc]; done) | (simp only [WKe, ↓reduceIte, reduceCtorEq, Int.reduceEq, *, takeC, h, hc]; rfl)), rfl⟩
        ((try clear hK) <;> (try simp only [WKe, List.map_set, *]) <;> repeat (first | with_reducible exact EntR.done | refine S.e ?_ | (refine S.f ?_ <;> (try simp only [WKe, hI, List.map_set, ↓reduceIte, reduceCtorEq, Int.reduceEq, *])) | with_reducible apply EntR.ex | refine EntR.drop (F := F) ?_ | refine EntR.drop ?_))
  · have h' := h
    unfold inR at h'
    have hI : takeG gS k = gS := by simp [takeG, h]
    ((try simp only [WKb, ↓reduceIte, Nat.reduceEqDiff, Nat.reduceAdd]) <;> (repeat' ((first
    | (refine G.tr ?_; first | refine S.a ?_ | refine Tr.brK ?_ ?_ | (refine G.call 136 ?_; refine S.c ?_ (h := rclone_ok ?_ ?_ ?_ ?_)) | (refine G.call 137 ?_; refine S.c ?_ (h := rbecome_ok)) | refine S.n fun _ => ?_ | refine S.i fun hix => ?_ | (refine S.g fun hb => ?_; (try simp only [hb])) | (refine S.s (fun hb => ?_) (fun hb => ?_) <;> ((try simp only [hb]) <;> (try (have hp := hb; simp only [WKs] at hp; (try have hq := Int.not_le.2 hp); (try have hq := Int.not_lt.2 hp))))))
    | rintro _ _ ⟨rfl, rfl⟩
    | rintro _ _ ⟨_, _, _, _, _, rfl, rfl⟩
    | ((fail_if_success refine G.tr ?_); exact G.prop S.p)
    | fail) <;> (try simp only [WKb, ↓reduceIte, Nat.reduceEqDiff]))))
    all_goals
      apply Tr.fin hK ⟨o.ss, o.fs, o.ps, o.ls, (by first | (simp [*, takeC]; done) | (simp only [WKe, ↓reduceIte, reduceCtorEq, Int.reduceEq, eq_self, *, takeC, h]; done) | (simp only [WKe, ↓reduceIte, reduceCtorEq, Int.reduceEq, *, takeC, h]; rfl)), rfl⟩
      ((try clear hK) <;> (try simp only [WKe, *]) <;> repeat (first | with_reducible exact EntR.done | refine S.e ?_ | (refine S.f ?_ <;> (try simp only [WKe, hI, ↓reduceIte, reduceCtorEq, Int.reduceEq, *])) | with_reducible apply EntR.ex | refine EntR.drop (F := F) ?_ | refine EntR.drop ?_))

theorem rgive_ok {r : Nat} {o : ObW} {gS : List SemG} {gF : List FlagG} {xs ys : List (SL Msg)} {k : Int} {cs : List SemC} (h1 : gS.length ≤ 100000) (h2 : gF.length ≤ 100000) (h3 : xs.length ≤ 100000) (h4 : ys.length ≤ 100000) (hcs : ∀ k : Int, inR gS k → k < cs.length ∧ (ix cs k).most = (ix gS k).most) :
    Trip Try.prog 105 [.pointer (some ⟨r, 0, none⟩), .int .i64 k].toArray [rOB r o, sl false o.ss.v (gS.map SemG.count), sl false o.fs.v (gF.map FlagG.up), sl false o.ps.v xs, fzl xs, sl false o.ls.v ys, fzl ys, sl true o.c.sems.v cs]
    fun v l' => ∃ a b c d, v = .int .i64 (giveC gS k) ∧ l' = [rOB r ⟨o.c, a, b, c, d⟩, sl false (SV.v a) ((giveG gS k).map SemG.count), sl false (SV.v b) ((gF).map FlagG.up), sl false (SV.v c) xs, fzl xs, sl false (SV.v d) ys, fzl ys] := by
  intro F K hK
  simp only [List.cons_append, List.nil_append]
  have hl1 : (gS.map SemG.count).length = gS.length := List.length_map _
  have hl2 : (gF.map FlagG.up).length = gF.length := List.length_map _
  (refine Tr.enter (rs := [.tmp 4]) mixed fn105 rfl (by simp +arith [Try.ntmps105]) fun u => ?_; simp only [cd105, Try.f105])
  by_cases h : inR gS k
  · have ⟨h0, h1'⟩ := h
    have hm := ix_map (f := SemG.count) h0 h1'
    obtain ⟨hc1, hc2⟩ := hcs k h
    by_cases hc : (ix gS k).most ≤ (ix gS k).count
    · have hI : giveG gS k = gS := by simp [giveG, h, hc]
      ((try simp only [WKb, ↓reduceIte, Nat.reduceEqDiff, Nat.reduceAdd]) <;> (repeat' ((first
    | (refine G.tr ?_; first | refine S.a ?_ | refine Tr.brK ?_ ?_ | (refine G.call 136 ?_; refine S.c ?_ (h := rclone_ok ?_ ?_ ?_ ?_)) | (refine G.call 137 ?_; refine S.c ?_ (h := rbecome_ok)) | refine S.n fun _ => ?_ | refine S.i fun hix => ?_ | (refine S.g fun hb => ?_; (try simp only [hb])) | (refine S.s (fun hb => ?_) (fun hb => ?_) <;> ((try simp only [hb]) <;> (try (have hp := hb; simp only [WKs] at hp; (try have hq := Int.not_le.2 hp); (try have hq := Int.not_lt.2 hp))))))
    | rintro _ _ ⟨rfl, rfl⟩
    | rintro _ _ ⟨_, _, _, _, _, rfl, rfl⟩
    | ((fail_if_success refine G.tr ?_); exact G.prop S.p)
    | fail) <;> (try simp only [WKb, ↓reduceIte, Nat.reduceEqDiff, pl105, hm, hc2]))))
      all_goals
        apply Tr.fin hK ⟨o.ss, o.fs, o.ps, o.ls, (by first | (simp [*, giveC]; done) | (simp only [WKe, ↓reduceIte, reduceCtorEq, Int.reduceEq, eq_self, *, giveC, h, hc]; done) | (simp only [WKe, ↓reduceIte, reduceCtorEq, Int.reduceEq, *, giveC, h, hc]; rfl)), rfl⟩
        ((try clear hK) <;> (try simp only [WKe, *]) <;> repeat (first | with_reducible exact EntR.done | refine S.e ?_ | (refine S.f ?_ <;> (try simp only [WKe, hI, ↓reduceIte, reduceCtorEq, Int.reduceEq, *])) | with_reducible apply EntR.ex | refine EntR.drop (F := F) ?_ | refine EntR.drop ?_))
    · have hI : giveG gS k = gS.set k.toNat { ix gS k with count := IntKind.i64.wrap ((ix gS k).count + 1) } := by simp [giveG, h, hc]
      ((try simp only [WKb, ↓reduceIte, Nat.reduceEqDiff, Nat.reduceAdd]) <;> (repeat' ((first
    | (refine G.tr ?_; first | refine S.a ?_ | refine Tr.brK ?_ ?_ | (refine G.call 136 ?_; refine S.c ?_ (h := rclone_ok ?_ ?_ ?_ ?_)) | (refine G.call 137 ?_; refine S.c ?_ (h := rbecome_ok)) | refine S.n fun _ => ?_ | refine S.i fun hix => ?_ | (refine S.g fun hb => ?_; (try simp only [hb])) | (refine S.s (fun hb => ?_) (fun hb => ?_) <;> ((try simp only [hb]) <;> (try (have hp := hb; simp only [WKs] at hp; (try have hq := Int.not_le.2 hp); (try have hq := Int.not_lt.2 hp))))))
    | rintro _ _ ⟨rfl, rfl⟩
    | rintro _ _ ⟨_, _, _, _, _, rfl, rfl⟩
    | ((fail_if_success refine G.tr ?_); exact G.prop S.p)
    | fail) <;> (try simp only [WKb, ↓reduceIte, Nat.reduceEqDiff, pl105, hm, hc2]))))
      all_goals
        apply Tr.fin hK ⟨_, _, _, _, (by first | (simp [*, giveC]; done) | (simp only [WKe, ↓reduceIte, reduceCtorEq, Int.reduceEq, eq_self, *, giveC, h, hc]; done) | (simp only [WKe, ↓reduceIte, reduceCtorEq, Int.reduceEq, *, giveC, h, hc]; rfl)), rfl⟩
        ((try clear hK) <;> (try simp only [WKe, List.map_set, *]) <;> repeat (first | with_reducible exact EntR.done | refine S.e ?_ | (refine S.f ?_ <;> (try simp only [WKe, hI, List.map_set, ↓reduceIte, reduceCtorEq, Int.reduceEq, *])) | with_reducible apply EntR.ex | refine EntR.drop (F := F) ?_ | refine EntR.drop ?_))
  · have h' := h
    unfold inR at h'
    have hI : giveG gS k = gS := by simp [giveG, h]
    ((try simp only [WKb, ↓reduceIte, Nat.reduceEqDiff, Nat.reduceAdd]) <;> (repeat' ((first
    | (refine G.tr ?_; first | refine S.a ?_ | refine Tr.brK ?_ ?_ | (refine G.call 136 ?_; refine S.c ?_ (h := rclone_ok ?_ ?_ ?_ ?_)) | (refine G.call 137 ?_; refine S.c ?_ (h := rbecome_ok)) | refine S.n fun _ => ?_ | refine S.i fun hix => ?_ | (refine S.g fun hb => ?_; (try simp only [hb])) | (refine S.s (fun hb => ?_) (fun hb => ?_) <;> ((try simp only [hb]) <;> (try (have hp := hb; simp only [WKs] at hp; (try have hq := Int.not_le.2 hp); (try have hq := Int.not_lt.2 hp))))))
    | rintro _ _ ⟨rfl, rfl⟩
    | rintro _ _ ⟨_, _, _, _, _, rfl, rfl⟩
    | ((fail_if_success refine G.tr ?_); exact G.prop S.p)
    | fail) <;> (try simp only [WKb, ↓reduceIte, Nat.reduceEqDiff]))))
    all_goals
      apply Tr.fin hK ⟨o.ss, o.fs, o.ps, o.ls, (by first | (simp [*, giveC]; done) | (simp only [WKe, ↓reduceIte, reduceCtorEq, Int.reduceEq, eq_self, *, giveC, h]; done) | (simp only [WKe, ↓reduceIte, reduceCtorEq, Int.reduceEq, *, giveC, h]; rfl)), rfl⟩
      ((try clear hK) <;> (try simp only [WKe, *]) <;> repeat (first | with_reducible exact EntR.done | refine S.e ?_ | (refine S.f ?_ <;> (try simp only [WKe, hI, ↓reduceIte, reduceCtorEq, Int.reduceEq, *])) | with_reducible apply EntR.ex | refine EntR.drop (F := F) ?_ | refine EntR.drop ?_))

theorem rflag_ok {r : Nat} {o : ObW} {gS : List SemG} {gF : List FlagG} {xs ys : List (SL Msg)} {k : Int} {up : Bool} (h1 : gS.length ≤ 100000) (h2 : gF.length ≤ 100000) (h3 : xs.length ≤ 100000) (h4 : ys.length ≤ 100000) :
    Trip Try.prog 106 [.pointer (some ⟨r, 0, none⟩), .int .i64 k, .bool up].toArray [rOB r o, sl false o.ss.v (gS.map SemG.count), sl false o.fs.v (gF.map FlagG.up), sl false o.ps.v xs, fzl xs, sl false o.ls.v ys, fzl ys]
    fun v l' => ∃ a b c d, v = .int .i64 (flagC gF k) ∧ l' = [rOB r ⟨o.c, a, b, c, d⟩, sl false (SV.v a) ((gS).map SemG.count), sl false (SV.v b) ((flagG gF k up).map FlagG.up), sl false (SV.v c) xs, fzl xs, sl false (SV.v d) ys, fzl ys] := by
  intro F K hK
  simp only [List.cons_append, List.nil_append]
  have hl1 : (gS.map SemG.count).length = gS.length := List.length_map _
  have hl2 : (gF.map FlagG.up).length = gF.length := List.length_map _
  (refine Tr.enter (rs := [.tmp 6]) mixed fn106 rfl (by simp +arith [Try.ntmps106]) fun u => ?_; simp only [cd106, Try.f106])
  by_cases h : inR gF k
  · have ⟨h0, h1'⟩ := h
    have hI : flagG gF k up = gF.set k.toNat { ix gF k with up := up } := by simp [flagG, h]
    ((try simp only [WKb, ↓reduceIte, Nat.reduceEqDiff, Nat.reduceAdd]) <;> (repeat' ((first
    | (refine G.tr ?_; first | refine S.a ?_ | refine Tr.brK ?_ ?_ | (refine G.call 136 ?_; refine S.c ?_ (h := rclone_ok ?_ ?_ ?_ ?_)) | (refine G.call 137 ?_; refine S.c ?_ (h := rbecome_ok)) | refine S.n fun _ => ?_ | refine S.i fun hix => ?_ | (refine S.g fun hb => ?_; (try simp only [hb])) | (refine S.s (fun hb => ?_) (fun hb => ?_) <;> ((try simp only [hb]) <;> (try (have hp := hb; simp only [WKs] at hp; (try have hq := Int.not_le.2 hp); (try have hq := Int.not_lt.2 hp))))))
    | rintro _ _ ⟨rfl, rfl⟩
    | rintro _ _ ⟨_, _, _, _, _, rfl, rfl⟩
    | ((fail_if_success refine G.tr ?_); exact G.prop S.p)
    | fail) <;> (try simp only [WKb, ↓reduceIte, Nat.reduceEqDiff]))))
    all_goals
      apply Tr.fin hK ⟨_, _, _, _, (by first | (simp [*, flagC]; done) | (simp only [WKe, ↓reduceIte, reduceCtorEq, Int.reduceEq, eq_self, *, flagC, h]; done) | (simp only [WKe, ↓reduceIte, reduceCtorEq, Int.reduceEq, *, flagC, h]; rfl)), rfl⟩
      ((try clear hK) <;> (try simp only [WKe, List.map_set, *]) <;> repeat (first | with_reducible exact EntR.done | refine S.e ?_ | (refine S.f ?_ <;> (try simp only [WKe, hI, List.map_set, ↓reduceIte, reduceCtorEq, Int.reduceEq, *])) | with_reducible apply EntR.ex | refine EntR.drop (F := F) ?_ | refine EntR.drop ?_))
  · have h' := h
    unfold inR at h'
    have hI : flagG gF k up = gF := by simp [flagG, h]
    ((try simp only [WKb, ↓reduceIte, Nat.reduceEqDiff, Nat.reduceAdd]) <;> (repeat' ((first
    | (refine G.tr ?_; first | refine S.a ?_ | refine Tr.brK ?_ ?_ | (refine G.call 136 ?_; refine S.c ?_ (h := rclone_ok ?_ ?_ ?_ ?_)) | (refine G.call 137 ?_; refine S.c ?_ (h := rbecome_ok)) | refine S.n fun _ => ?_ | refine S.i fun hix => ?_ | (refine S.g fun hb => ?_; (try simp only [hb])) | (refine S.s (fun hb => ?_) (fun hb => ?_) <;> ((try simp only [hb]) <;> (try (have hp := hb; simp only [WKs] at hp; (try have hq := Int.not_le.2 hp); (try have hq := Int.not_lt.2 hp))))))
    | rintro _ _ ⟨rfl, rfl⟩
    | rintro _ _ ⟨_, _, _, _, _, rfl, rfl⟩
    | ((fail_if_success refine G.tr ?_); exact G.prop S.p)
    | fail) <;> (try simp only [WKb, ↓reduceIte, Nat.reduceEqDiff]))))
    all_goals
      apply Tr.fin hK ⟨o.ss, o.fs, o.ps, o.ls, (by first | (simp [*, flagC]; done) | (simp only [WKe, ↓reduceIte, reduceCtorEq, Int.reduceEq, eq_self, *, flagC, h]; done) | (simp only [WKe, ↓reduceIte, reduceCtorEq, Int.reduceEq, *, flagC, h]; rfl)), rfl⟩
      ((try clear hK) <;> (try simp only [WKe, *]) <;> repeat (first | with_reducible exact EntR.done | refine S.e ?_ | (refine S.f ?_ <;> (try simp only [WKe, hI, ↓reduceIte, reduceCtorEq, Int.reduceEq, *])) | with_reducible apply EntR.ex | refine EntR.drop (F := F) ?_ | refine EntR.drop ?_))

theorem rup_ok {r : Nat} {o : ObW} {gF : List FlagG} {k : Int} : Trip Try.prog 114 [.pointer (some ⟨r, 0, none⟩), .int .i64 k].toArray [rOB r o, sl false o.fs.v (gF.map FlagG.up)]
    fun v l' => v = .tuple #[.bool (upB gF k), .int .i64 (flagC gF k)] ∧ l' = [rOB r o, sl false o.fs.v (gF.map FlagG.up)] := by
  intro F K hK
  simp only [List.cons_append, List.nil_append]
  have hl2 : (gF.map FlagG.up).length = gF.length := List.length_map _
  (refine Tr.enter (rs := [.tmp 4, .tmp 5]) mixed fn114 rfl (by simp +arith [Try.ntmps114]) fun u => ?_; simp only [cd114, Try.f114])
  by_cases h : inR gF k
  · have ⟨h0, h1'⟩ := h
    have hm := ix_map (f := FlagG.up) h0 h1'
    ((try simp only [WKb, ↓reduceIte, Nat.reduceEqDiff, Nat.reduceAdd]) <;> (repeat' ((first
    | (refine G.tr ?_; first | refine S.a ?_ | refine Tr.brK ?_ ?_ | refine S.n fun _ => ?_ | refine S.i fun hix => ?_ | (refine S.g fun hb => ?_; (try simp only [hb])) | (refine S.s (fun hb => ?_) (fun hb => ?_) <;> ((try simp only [hb]) <;> (try (have hp := hb; simp only [WKs] at hp; (try have hq := Int.not_le.2 hp); (try have hq := Int.not_lt.2 hp))))))
    | ((fail_if_success refine G.tr ?_); exact G.prop S.p)
    | fail) <;> (try simp only [WKb, ↓reduceIte, Nat.reduceEqDiff, hm]))))
    all_goals
      refine Tr.fin hK ⟨(by first | (simp [*, flagC, upB]; done) | (simp only [WKe, ↓reduceIte, reduceCtorEq, Int.reduceEq, eq_self, *, flagC, upB, h]; done) | (simp only [WKe, ↓reduceIte, reduceCtorEq, Int.reduceEq, *, flagC, upB, h]; rfl)), rfl⟩ ?_
      ((try clear hK) <;> (try simp only [WKe, *]) <;> repeat (first | with_reducible exact EntR.done | refine S.e ?_ | (refine S.f ?_ <;> (try simp only [WKe, ↓reduceIte, reduceCtorEq, Int.reduceEq, *])) | with_reducible apply EntR.ex | refine EntR.drop (F := F) ?_ | refine EntR.drop ?_))
  · have h' := h
    unfold inR at h'
    ((try simp only [WKb, ↓reduceIte, Nat.reduceEqDiff, Nat.reduceAdd]) <;> (repeat' ((first
    | (refine G.tr ?_; first | refine S.a ?_ | refine Tr.brK ?_ ?_ | refine S.n fun _ => ?_ | refine S.i fun hix => ?_ | (refine S.g fun hb => ?_; (try simp only [hb])) | (refine S.s (fun hb => ?_) (fun hb => ?_) <;> ((try simp only [hb]) <;> (try (have hp := hb; simp only [WKs] at hp; (try have hq := Int.not_le.2 hp); (try have hq := Int.not_lt.2 hp))))))
    | ((fail_if_success refine G.tr ?_); exact G.prop S.p)
    | fail) <;> (try simp only [WKb, ↓reduceIte, Nat.reduceEqDiff]))))
    all_goals
      refine Tr.fin hK ⟨(by first | (simp [*, flagC, upB]; done) | (simp only [WKe, ↓reduceIte, reduceCtorEq, Int.reduceEq, eq_self, *, flagC, upB, h]; done) | (simp only [WKe, ↓reduceIte, reduceCtorEq, Int.reduceEq, *, flagC, upB, h]; rfl)), rfl⟩ ?_
      ((try clear hK) <;> (try simp only [WKe, *]) <;> repeat (first | with_reducible exact EntR.done | refine S.e ?_ | (refine S.f ?_ <;> (try simp only [WKe, ↓reduceIte, reduceCtorEq, Int.reduceEq, *])) | with_reducible apply EntR.ex | refine EntR.drop (F := F) ?_ | refine EntR.drop ?_))

end Go.Proofs.Ytlmcoiloepoggaa
