import Derived.Test.YtlmcoiloepoggaaOK
import Derived.Test.YtlmcoiloepoggaaWkN
namespace Go.Proofs.Ytlmcoiloepoggaa
open Go Go.Wk
set_option maxHeartbeats 6400000
set_option maxRecDepth 10000
theorem fits_t {n : Nat} {s : Int} : fitsB n s = true ↔ 1 ≤ (n : Int) ∧ (n : Int) ≤ s := by unfold fitsB; simp; omega
section
variable {α : Type} {f : α → List (List UInt8)} {gs : List α} {xs : List (SL Msg)}
theorem mm_len (h : xs.map mo = gs.map f) : xs.length = gs.length := by simpa using congrArg List.length h
theorem mm_ix [Inhabited α] (h : xs.map mo = gs.map f) {k : Int} (hr : inR gs k) : (ix xs k).d.map SL.d = f (ix gs k) := by
  have hl := mm_len h
  rw [← ix_map (f := f) hr.1 hr.2, ← h, ix_map (f := mo) hr.1 (by have := hr.2; omega)]; rfl
theorem mm_set (h : xs.map mo = gs.map f) {k : Nat} {y : SL Msg} {g : α} (hg : mo y = f g) : (xs.set k y).map mo = (gs.set k g).map f := by rw [List.map_set, List.map_set, h, hg]
end
attribute [local irreducible] BrK GenK EGenK EUnitK CallK FnK CallV GuardO GuardC CondW opX opK opKc chkR eqR seqK blkK endL WL WD W LoopW BinK Tr drewK resL PickK NotK NilK ExtrK getK Instr.storeAt Instr.loadAt Instr.fieldAt Instr.indexAt Instr.lookup Instr.mapUpdate Instr.box Instr.alloc Instr.build Instr.buildSlice Instr.makeSlice Instr.makeMap Instr.sliceAt Instr.field Instr.index Instr.makeInterface Instr.typeAssert Builtin.len_ Builtin.append_ Builtin.cap_ Builtin.min_ Builtin.max_ Builtin.copy_ Builtin.clear_ convert binOp mp blk rob sl sep ex fact old
theorem rput20_ok {r : Nat} {o : ObW} {gS : List SemG} {gF : List FlagG} {xs ys : List (SL Msg)} {gP : List PoolG} {k : Int} {s : SV} {m : List UInt8} {cp : List PoolC} (h1 : gS.length ≤ 100000) (h2 : gF.length ≤ 100000) (h3 : xs.length ≤ 100000) (h4 : ys.length ≤ 100000) (hx : xs.map mo = gP.map PoolG.mm) (hm : (ix gP k).ms.length ≤ 100000) (hcp : ∀ k : Int, inR gP k → k < cp.length ∧ (ix cp k).size = (ix gP k).size ∧ (ix cp k).depth = (ix gP k).depth) :
    Trip Try.prog 107 [.pointer (some ⟨r, 0, none⟩), .int .i64 k, s.v].toArray [rOB r o, sl false o.ss.v (gS.map SemG.count), sl false o.fs.v (gF.map FlagG.up), sl false o.ps.v xs, fzl xs, sl false o.ls.v ys, fzl ys, sl true s.v m, sl true o.c.pools.v cp]
    fun v l' => ∃ a b c d xs2, (∀ s1 s4, xs2.map mo = (putG gP k s1 ⟨s4, m⟩).map PoolG.mm) ∧ v = .int .i64 (putC gP k m.length) ∧ l' = [rOB r ⟨o.c, a, b, c, d⟩, sl false (SV.v a) ((gS).map SemG.count), sl false (SV.v b) ((gF).map FlagG.up), sl false (SV.v c) xs2, fzl xs2, sl false (SV.v d) ys, fzl ys] := by
  intro F K hK
  simp only [List.cons_append, List.nil_append]
  have hl1 : (gS.map SemG.count).length = gS.length := List.length_map _
  have hl2 : (gF.map FlagG.up).length = gF.length := List.length_map _
  have hlx := mm_len hx
  (refine Tr.enter (rs := [.tmp 6]) mixed fn107 rfl (by simp +arith [Try.ntmps107]) fun u => ?_; simp only [cd107, Try.f107])
  by_cases h : inR gP k
  · have ⟨h0, h1'⟩ := h
    have hms := mm_ix hx h
    have hlm : (ix xs k).d.length = (ix gP k).ms.length := by have := congrArg List.length hms; simpa [PoolG.mm] using this
    obtain ⟨hc1, hc2, hc3⟩ := hcp k h
    cases hf : fitsB m.length (ix gP k).size
    · have hI : ∀ s1 s4, putG gP k s1 ⟨s4, m⟩ = gP := fun s1 s4 => by simp [putG, putC, h, hf]
      have hf' : ¬ (1 ≤ (m.length : Int) ∧ (m.length : Int) ≤ (ix gP k).size) := fun h => by rw [fits_t.2 h] at hf; cases hf
      ((try simp only [WKb, ↓reduceIte, Nat.reduceEqDiff, Nat.reduceAdd]) <;> (repeat' ((first
    | (refine G.tr ?_; first | refine S.a ?_ | refine Tr.brK ?_ ?_ | (refine G.call 136 ?_; refine S.c ?_ (h := rclone_ok ?_ ?_ ?_ ?_)) | (refine G.call 137 ?_; refine S.c ?_ (h := rbecome_ok)) | refine S.n fun _ => ?_ | refine S.i fun hix => ?_ | (refine S.g fun hb => ?_; (try simp only [hb])) | (refine S.s (fun hb => ?_) (fun hb => ?_) <;> ((try simp only [hb]) <;> (try (have hp := hb; simp only [WKs] at hp; (try have hq := Int.not_le.2 hp); (try have hq := Int.not_lt.2 hp))))))
    | rintro _ _ ⟨rfl, rfl⟩
    | rintro _ _ ⟨_, _, _, _, _, rfl, rfl⟩
    | ((fail_if_success refine G.tr ?_); exact G.prop S.p)
    | fail) <;> (try simp only [WKb, ↓reduceIte, Nat.reduceEqDiff, hc2]))))
      all_goals
        apply Tr.fin hK ⟨o.ss, o.fs, o.ps, o.ls, xs, (fun s1 s4 => by rw [hI]; exact hx), (by first | (simp [*, putC]; done) | (simp only [WKe, ↓reduceIte, reduceCtorEq, Int.reduceEq, eq_self, *, putC, h, hf]; done) | (simp only [WKe, ↓reduceIte, reduceCtorEq, Int.reduceEq, *, putC, h, hf]; rfl)), rfl⟩
        ((try clear hK) <;> (try simp only [WKe, *]) <;> repeat (first | with_reducible exact EntR.done | refine S.e ?_ | (refine S.f ?_ <;> (try simp only [WKe, ↓reduceIte, reduceCtorEq, Int.reduceEq, *])) | with_reducible apply EntR.ex | refine EntR.drop (F := F) ?_ | refine EntR.drop ?_))
    · have hf' := fits_t.1 hf
      by_cases hd : (ix gP k).depth ≤ (ix gP k).ms.length
      · have hI : ∀ s1 s4, putG gP k s1 ⟨s4, m⟩ = gP := fun s1 s4 => by simp [putG, putC, h, hf, hd]
        ((try simp only [WKb, ↓reduceIte, Nat.reduceEqDiff, Nat.reduceAdd]) <;> (repeat' ((first
    | (refine G.tr ?_; first | refine S.a ?_ | refine Tr.brK ?_ ?_ | (refine G.call 136 ?_; refine S.c ?_ (h := rclone_ok ?_ ?_ ?_ ?_)) | (refine G.call 137 ?_; refine S.c ?_ (h := rbecome_ok)) | refine S.n fun _ => ?_ | refine S.i fun hix => ?_ | (refine S.g fun hb => ?_; (try simp only [hb])) | (refine S.s (fun hb => ?_) (fun hb => ?_) <;> ((try simp only [hb]) <;> (try (have hp := hb; simp only [WKs] at hp; (try have hq := Int.not_le.2 hp); (try have hq := Int.not_lt.2 hp))))))
    | rintro _ _ ⟨rfl, rfl⟩
    | rintro _ _ ⟨_, _, _, _, _, rfl, rfl⟩
    | ((fail_if_success refine G.tr ?_); exact G.prop S.p)
    | fail) <;> (try simp only [WKb, ↓reduceIte, Nat.reduceEqDiff, pl107, hc2, hc3, hlm]))))
        all_goals
          apply Tr.fin hK ⟨o.ss, o.fs, o.ps, o.ls, xs, (fun s1 s4 => by rw [hI]; exact hx), (by first | (simp [*, putC]; done) | (simp only [WKe, ↓reduceIte, reduceCtorEq, Int.reduceEq, eq_self, *, putC, h, hf, hd]; done) | (simp only [WKe, ↓reduceIte, reduceCtorEq, Int.reduceEq, *, putC, h, hf, hd]; rfl)), rfl⟩
          ((try clear hK) <;> (try simp only [WKe, *]) <;> repeat (first | with_reducible exact EntR.done | refine S.e ?_ | (refine S.f ?_ <;> (try simp only [WKe, ↓reduceIte, reduceCtorEq, Int.reduceEq, *])) | with_reducible apply EntR.ex | refine EntR.drop (F := F) ?_ | refine EntR.drop ?_))
      · have hI : ∀ s1 s4, putG gP k s1 ⟨s4, m⟩ = gP.set k.toNat { ix gP k with s := s1, ms := (ix gP k).ms ++ [⟨s4, m⟩] } := fun s1 s4 => by simp [putG, putC, h, hf, hd]
        have hS : ∀ t s1 s4, (xs.set k.toNat ⟨t, (ix xs k).d ++ [⟨s, m⟩]⟩).map mo = (putG gP k s1 ⟨s4, m⟩).map PoolG.mm := fun t s1 s4 => by
          rw [hI]; exact mm_set hx (by simp only [mo, List.map_append, hms]; simp [PoolG.mm])
        ((try simp only [WKb, ↓reduceIte, Nat.reduceEqDiff, Nat.reduceAdd]) <;> (repeat' ((first
    | (refine G.tr ?_; first | refine S.a ?_ | refine Tr.brK ?_ ?_ | (refine G.call 136 ?_; refine S.c ?_ (h := rclone_ok ?_ ?_ ?_ ?_)) | (refine G.call 137 ?_; refine S.c ?_ (h := rbecome_ok)) | refine S.n fun _ => ?_ | refine S.i fun hix => ?_ | (refine S.g fun hb => ?_; (try simp only [hb])) | (refine S.s (fun hb => ?_) (fun hb => ?_) <;> ((try simp only [hb]) <;> (try (have hp := hb; simp only [WKs] at hp; (try have hq := Int.not_le.2 hp); (try have hq := Int.not_lt.2 hp))))))
    | rintro _ _ ⟨rfl, rfl⟩
    | rintro _ _ ⟨_, _, _, _, _, rfl, rfl⟩
    | (refine G.store ?_; refine Tr.freezeAt (α := Msg) (by (repeat (first | exact TakeA.here | apply TakeA.next)); done) ?_)
    | ((fail_if_success refine G.tr ?_); exact G.prop S.p)
    | fail) <;> (try simp only [WKb, ↓reduceIte, Nat.reduceEqDiff, pl107, hc2, hc3, hlm]))))
        all_goals
          apply Tr.fin hK ⟨_, _, _, _, _, hS _, (by first | (simp [*, putC]; done) | (simp only [WKe, ↓reduceIte, reduceCtorEq, Int.reduceEq, eq_self, *, putC, h, hf, hd]; done) | (simp only [WKe, ↓reduceIte, reduceCtorEq, Int.reduceEq, *, putC, h, hf, hd]; rfl)), rfl⟩
          ((try clear hK) <;> (try simp only [WKe, *]) <;> repeat (first | with_reducible exact EntR.done | refine S.e ?_ | (refine S.f ?_ <;> (try simp only [WKe, ↓reduceIte, reduceCtorEq, Int.reduceEq, *])) | with_reducible apply EntR.ex | refine EntR.drop (F := F) ?_ | refine EntR.drop ?_))
  · have h' := h
    unfold inR at h'
    have hI : ∀ s1 s4, putG gP k s1 ⟨s4, m⟩ = gP := fun s1 s4 => by simp [putG, putC, h]
    ((try simp only [WKb, ↓reduceIte, Nat.reduceEqDiff, Nat.reduceAdd]) <;> (repeat' ((first
    | (refine G.tr ?_; first | refine S.a ?_ | refine Tr.brK ?_ ?_ | (refine G.call 136 ?_; refine S.c ?_ (h := rclone_ok ?_ ?_ ?_ ?_)) | (refine G.call 137 ?_; refine S.c ?_ (h := rbecome_ok)) | refine S.n fun _ => ?_ | refine S.i fun hix => ?_ | (refine S.g fun hb => ?_; (try simp only [hb])) | (refine S.s (fun hb => ?_) (fun hb => ?_) <;> ((try simp only [hb]) <;> (try (have hp := hb; simp only [WKs] at hp; (try have hq := Int.not_le.2 hp); (try have hq := Int.not_lt.2 hp))))))
    | rintro _ _ ⟨rfl, rfl⟩
    | rintro _ _ ⟨_, _, _, _, _, rfl, rfl⟩
    | ((fail_if_success refine G.tr ?_); exact G.prop S.p)
    | fail) <;> (try simp only [WKb, ↓reduceIte, Nat.reduceEqDiff]))))
    all_goals
      apply Tr.fin hK ⟨o.ss, o.fs, o.ps, o.ls, xs, (fun s1 s4 => by rw [hI]; exact hx), (by first | (simp [*, putC]; done) | (simp only [WKe, ↓reduceIte, reduceCtorEq, Int.reduceEq, eq_self, *, putC, h]; done) | (simp only [WKe, ↓reduceIte, reduceCtorEq, Int.reduceEq, *, putC, h]; rfl)), rfl⟩
      ((try clear hK) <;> (try simp only [WKe, *]) <;> repeat (first | with_reducible exact EntR.done | refine S.e ?_ | (refine S.f ?_ <;> (try simp only [WKe, ↓reduceIte, reduceCtorEq, Int.reduceEq, *])) | with_reducible apply EntR.ex | refine EntR.drop (F := F) ?_ | refine EntR.drop ?_))

theorem rget_ok {r : Nat} {o : ObW} {gS : List SemG} {gF : List FlagG} {xs ys : List (SL Msg)} {gP : List PoolG} {k : Int} (h1 : gS.length ≤ 100000) (h2 : gF.length ≤ 100000) (h3 : xs.length ≤ 100000) (h4 : ys.length ≤ 100000) (hx : xs.map mo = gP.map PoolG.mm) (hm : (ix gP k).ms.length ≤ 100000) :
    Trip Try.prog 108 [.pointer (some ⟨r, 0, none⟩), .int .i64 k].toArray [rOB r o, sl false o.ss.v (gS.map SemG.count), sl false o.fs.v (gF.map FlagG.up), sl false o.ps.v xs, fzl xs, sl false o.ls.v ys, fzl ys]
    fun v l' => ∃ a b c d xs2 t, (∀ s1, xs2.map mo = (getG gP k s1).map PoolG.mm) ∧ v = .tuple #[SV.v t, .int .i64 (getC gP k)] ∧ l' = [Fz.fz (SL.mk t (getM gP k).d : Msg), rOB r ⟨o.c, a, b, c, d⟩, sl false (SV.v a) ((gS).map SemG.count), sl false (SV.v b) ((gF).map FlagG.up), sl false (SV.v c) xs2, fzl xs2, sl false (SV.v d) ys, fzl ys] := by
  intro F K hK
  simp only [List.cons_append, List.nil_append]
  have hl1 : (gS.map SemG.count).length = gS.length := List.length_map _
  have hl2 : (gF.map FlagG.up).length = gF.length := List.length_map _
  have hlx := mm_len hx
  have hdm : (⟨⟨none, 0, 0⟩, []⟩ : Msg) = default := rfl
  (refine Tr.enter (rs := [.tmp 4, .tmp 5]) mixed fn108 rfl (by simp +arith [Try.ntmps108]) fun u => ?_; simp only [cd108, Try.f108])
  by_cases h : inR gP k
  · have ⟨h0, h1'⟩ := h
    have hms := mm_ix hx h
    have hlm : (ix xs k).d.length = (ix gP k).ms.length := by have := congrArg List.length hms; simpa [PoolG.mm] using this
    by_cases he : ((ix gP k).ms.length : Int) = 0
    · have hI : ∀ s1, getG gP k s1 = gP := fun s1 => by simp only [getG, getC, h, he, if_true]; rfl
      have hD : (getM gP k).d = [] := by simp only [getM, getC, h, he, if_true]; rfl
      ((try simp only [WKb, ↓reduceIte, Nat.reduceEqDiff, Nat.reduceAdd]) <;> (repeat' ((first
    | (refine G.tr ?_; first | refine S.a ?_ | refine Tr.brK ?_ ?_ | (refine G.call 136 ?_; refine S.c ?_ (h := rclone_ok ?_ ?_ ?_ ?_)) | (refine G.call 137 ?_; refine S.c ?_ (h := rbecome_ok)) | refine S.n fun _ => ?_ | refine S.i fun hix => ?_ | (refine S.g fun hb => ?_; (try simp only [hb])) | (refine S.s (fun hb => ?_) (fun hb => ?_) <;> ((try simp only [hb]) <;> (try (have hp := hb; simp only [WKs] at hp; (try have hq := Int.not_le.2 hp); (try have hq := Int.not_lt.2 hp))))))
    | rintro _ _ ⟨rfl, rfl⟩
    | rintro _ _ ⟨_, _, _, _, _, rfl, rfl⟩
    | ((fail_if_success refine G.tr ?_); exact G.prop S.p)
    | fail) <;> (try simp only [WKb, ↓reduceIte, Nat.reduceEqDiff, hlm]))))
      all_goals
        apply Tr.fin hK ⟨o.ss, o.fs, o.ps, o.ls, xs, ⟨none, 0, 0⟩, (fun s1 => by rw [hI]; exact hx), (by first | (simp [*, getC]; done) | (simp only [↓reduceIte, eq_self, *, getC]; done) | (simp only [↓reduceIte, *, getC]; rfl)), rfl⟩
        ((try clear hK) <;> (try simp only [WKe, *]) <;> repeat (first | with_reducible exact EntR.done | refine S.e ?_ | (refine S.f ?_ <;> (try simp only [WKe, hD, hdm, ↓reduceIte, reduceCtorEq, Int.reduceEq, *])) | with_reducible apply EntR.ex | refine EntR.drop (F := F) ?_ | refine EntR.drop ?_))
    · have hI : ∀ s1, getG gP k s1 = gP.set k.toNat { ix gP k with s := s1, ms := (ix gP k).ms.drop 1 } := fun s1 => by simp only [getG, getC, h, he, if_true, if_false]
      have hD : (getM gP k).d = (ix (ix xs k).d 0).d := by
        have : (getM gP k) = ix (ix gP k).ms 0 := by simp only [getM, getC, h, he, if_true, if_false]
        rw [this, ← ix_map (f := SL.d) (by omega) (by omega), ← ix_map (xs := (ix xs k).d) (f := SL.d) (by omega) (by omega), hms]; rfl
      have hS : ∀ t s1, (xs.set k.toNat ⟨t, (ix xs k).d.drop (Int.toNat 1)⟩).map mo = (getG gP k s1).map PoolG.mm := fun t s1 => by
        rw [hI]; exact mm_set hx (by simp only [mo, List.map_drop, hms]; simp [PoolG.mm])
      ((try simp only [WKb, ↓reduceIte, Nat.reduceEqDiff, Nat.reduceAdd]) <;> (repeat' ((first
    | (refine G.tr ?_; first | refine S.d ?_ | refine S.a ?_ | refine Tr.brK ?_ ?_ | (refine G.call 136 ?_; refine S.c ?_ (h := rclone_ok ?_ ?_ ?_ ?_)) | (refine G.call 137 ?_; refine S.c ?_ (h := rbecome_ok)) | refine S.n fun _ => ?_ | refine S.i fun hix => ?_ | (refine S.g fun hb => ?_; (try simp only [hb])) | (refine S.s (fun hb => ?_) (fun hb => ?_) <;> ((try simp only [hb]) <;> (try (have hp := hb; simp only [WKs] at hp; (try have hq := Int.not_le.2 hp); (try have hq := Int.not_lt.2 hp))))))
    | rintro _ _ ⟨rfl, rfl⟩
    | rintro _ _ ⟨_, _, _, _, _, rfl, rfl⟩
    | (refine G.store ?_; refine Tr.freezeAt (α := Msg) (by (repeat (first | exact TakeA.here | apply TakeA.next)); done) ?_)
    | ((fail_if_success refine G.tr ?_); exact G.prop S.p)
    | fail) <;> (try simp only [WKb, ↓reduceIte, Nat.reduceEqDiff, pl108, hlm]))))
      all_goals
        apply Tr.fin hK ⟨_, _, _, _, _, (ix (ix xs k).d 0).s, hS _, (by first | (simp [*, getC]; done) | (simp only [↓reduceIte, eq_self, *, getC]; done) | (simp only [WKe, ↓reduceIte, reduceCtorEq, Int.reduceEq, *, getC, h, he]; rfl)), rfl⟩
        ((try clear hK) <;> (try simp only [WKe, *]) <;> repeat (first | with_reducible exact EntR.done | refine S.e ?_ | (refine S.f ?_ <;> (try simp only [WKe, hD, ↓reduceIte, reduceCtorEq, Int.reduceEq, *])) | with_reducible apply EntR.ex | refine EntR.drop (F := F) ?_ | refine EntR.drop ?_))
  · have h' := h
    unfold inR at h'
    have hI : ∀ s1, getG gP k s1 = gP := fun s1 => by simp [getG, getC, h]
    have hD : (getM gP k).d = [] := by simp only [getM, getC, h, if_false]; rfl
    ((try simp only [WKb, ↓reduceIte, Nat.reduceEqDiff, Nat.reduceAdd]) <;> (repeat' ((first
    | (refine G.tr ?_; first | refine S.a ?_ | refine Tr.brK ?_ ?_ | (refine G.call 136 ?_; refine S.c ?_ (h := rclone_ok ?_ ?_ ?_ ?_)) | (refine G.call 137 ?_; refine S.c ?_ (h := rbecome_ok)) | refine S.n fun _ => ?_ | refine S.i fun hix => ?_ | (refine S.g fun hb => ?_; (try simp only [hb])) | (refine S.s (fun hb => ?_) (fun hb => ?_) <;> ((try simp only [hb]) <;> (try (have hp := hb; simp only [WKs] at hp; (try have hq := Int.not_le.2 hp); (try have hq := Int.not_lt.2 hp))))))
    | rintro _ _ ⟨rfl, rfl⟩
    | rintro _ _ ⟨_, _, _, _, _, rfl, rfl⟩
    | ((fail_if_success refine G.tr ?_); exact G.prop S.p)
    | fail) <;> (try simp only [WKb, ↓reduceIte, Nat.reduceEqDiff]))))
    all_goals
      apply Tr.fin hK ⟨o.ss, o.fs, o.ps, o.ls, xs, ⟨none, 0, 0⟩, (fun s1 => by rw [hI]; exact hx), (by first | (simp [*, getC]; done) | (simp only [↓reduceIte, *, getC]; done) | (simp only [↓reduceIte, *, getC]; rfl)), rfl⟩
      ((try clear hK) <;> (try simp only [WKe, *]) <;> repeat (first | with_reducible exact EntR.done | refine S.e ?_ | (refine S.f ?_ <;> (try simp only [WKe, hD, hdm, ↓reduceIte, reduceCtorEq, Int.reduceEq, *])) | with_reducible apply EntR.ex | refine EntR.drop (F := F) ?_ | refine EntR.drop ?_))

theorem rshow_ok {r : Nat} {o : ObW} {gS : List SemG} {gF : List FlagG} {xs ys : List (SL Msg)} {gL : List SlateG} {k : Int} {s : SV} {m : List UInt8} {cl : List Int} (h1 : gS.length ≤ 100000) (h2 : gF.length ≤ 100000) (h3 : xs.length ≤ 100000) (h4 : ys.length ≤ 100000) (hy : ys.map mo = gL.map SlateG.mm) (hcl : ∀ k : Int, inR gL k → k < cl.length ∧ ix cl k = (ix gL k).size) :
    Trip Try.prog 110 [.pointer (some ⟨r, 0, none⟩), .int .i64 k, s.v].toArray [rOB r o, sl false o.ss.v (gS.map SemG.count), sl false o.fs.v (gF.map FlagG.up), sl false o.ps.v xs, fzl xs, sl false o.ls.v ys, fzl ys, sl true s.v m, sl true o.c.slates.v cl]
    fun v l' => ∃ a b c d ys2, (∀ s4, ys2.map mo = (showG gL k ⟨s4, m⟩).map SlateG.mm) ∧ v = .int .i64 (showC gL k m.length) ∧ l' = [rOB r ⟨o.c, a, b, c, d⟩, sl false (SV.v a) ((gS).map SemG.count), sl false (SV.v b) ((gF).map FlagG.up), sl false (SV.v c) xs, fzl xs, sl false (SV.v d) ys2, fzl ys2] := by
  intro F K hK
  simp only [List.cons_append, List.nil_append]
  have hl1 : (gS.map SemG.count).length = gS.length := List.length_map _
  have hl2 : (gF.map FlagG.up).length = gF.length := List.length_map _
  have hlx := mm_len hy
  (refine Tr.enter (rs := [.tmp 6]) mixed fn110 rfl (by simp +arith [Try.ntmps110]) fun u => ?_; simp only [cd110, Try.f110])
  by_cases h : inR gL k
  · have ⟨h0, h1'⟩ := h
    obtain ⟨hc1, hc2⟩ := hcl k h
    cases hf : fitsB m.length (ix gL k).size
    · have hI : ∀ s4, showG gL k ⟨s4, m⟩ = gL := fun s4 => by simp [showG, showC, h, hf]
      have hf' : ¬ (1 ≤ (m.length : Int) ∧ (m.length : Int) ≤ (ix gL k).size) := fun h => by rw [fits_t.2 h] at hf; cases hf
      ((try simp only [WKb, ↓reduceIte, Nat.reduceEqDiff, Nat.reduceAdd]) <;> (repeat' ((first
    | (refine G.tr ?_; first | refine S.a ?_ | refine Tr.brK ?_ ?_ | (refine G.call 136 ?_; refine S.c ?_ (h := rclone_ok ?_ ?_ ?_ ?_)) | (refine G.call 137 ?_; refine S.c ?_ (h := rbecome_ok)) | refine S.n fun _ => ?_ | refine S.i fun hix => ?_ | (refine S.g fun hb => ?_; (try simp only [hb])) | (refine S.s (fun hb => ?_) (fun hb => ?_) <;> ((try simp only [hb]) <;> (try (have hp := hb; simp only [WKs] at hp; (try have hq := Int.not_le.2 hp); (try have hq := Int.not_lt.2 hp))))))
    | rintro _ _ ⟨rfl, rfl⟩
    | rintro _ _ ⟨_, _, _, _, _, rfl, rfl⟩
    | ((fail_if_success refine G.tr ?_); exact G.prop S.p)
    | fail) <;> (try simp only [WKb, ↓reduceIte, Nat.reduceEqDiff, hc2]))))
      all_goals
        apply Tr.fin hK ⟨o.ss, o.fs, o.ps, o.ls, ys, (fun s4 => by rw [hI]; exact hy), (by first | (simp [*, showC]; done) | (simp only [WKe, ↓reduceIte, reduceCtorEq, Int.reduceEq, eq_self, *, showC, h, hf]; done) | (simp only [WKe, ↓reduceIte, reduceCtorEq, Int.reduceEq, *, showC, h, hf]; rfl)), rfl⟩
        ((try clear hK) <;> (try simp only [WKe, *]) <;> repeat (first | with_reducible exact EntR.done | refine S.e ?_ | (refine S.f ?_ <;> (try simp only [WKe, ↓reduceIte, reduceCtorEq, Int.reduceEq, *])) | with_reducible apply EntR.ex | refine EntR.drop (F := F) ?_ | refine EntR.drop ?_))
    · have hf' := fits_t.1 hf
      have hI : ∀ s4, showG gL k ⟨s4, m⟩ = gL.set k.toNat { ix gL k with m := ⟨s4, m⟩, shown := true } := fun s4 => by simp [showG, showC, h, hf]
      have hS : ∀ t s4, (ys.set k.toNat ⟨t, [⟨s, m⟩]⟩).map mo = (showG gL k ⟨s4, m⟩).map SlateG.mm := fun t s4 => by
        rw [hI]; exact mm_set hy rfl
      ((try simp only [WKb, ↓reduceIte, Nat.reduceEqDiff, Nat.reduceAdd]) <;> (repeat' ((first
    | (refine G.tr ?_; first | refine S.a ?_ | refine Tr.brK ?_ ?_ | (refine G.call 136 ?_; refine S.c ?_ (h := rclone_ok ?_ ?_ ?_ ?_)) | (refine G.call 137 ?_; refine S.c ?_ (h := rbecome_ok)) | refine S.n fun _ => ?_ | refine S.i fun hix => ?_ | (refine S.g fun hb => ?_; (try simp only [hb])) | (refine S.s (fun hb => ?_) (fun hb => ?_) <;> ((try simp only [hb]) <;> (try (have hp := hb; simp only [WKs] at hp; (try have hq := Int.not_le.2 hp); (try have hq := Int.not_lt.2 hp))))))
    | rintro _ _ ⟨rfl, rfl⟩
    | rintro _ _ ⟨_, _, _, _, _, rfl, rfl⟩
    | (refine G.store ?_; refine Tr.freezeAt (α := Msg) (by (repeat (first | exact TakeA.here | apply TakeA.next)); done) ?_)
    | ((fail_if_success refine G.tr ?_); exact G.prop S.p)
    | fail) <;> (try simp only [WKb, ↓reduceIte, Nat.reduceEqDiff, hc2]))))
      all_goals
        apply Tr.fin hK ⟨_, _, _, _, _, hS _, (by first | (simp [*, showC]; done) | (simp only [WKe, ↓reduceIte, reduceCtorEq, Int.reduceEq, eq_self, *, showC, h, hf]; done) | (simp only [WKe, ↓reduceIte, reduceCtorEq, Int.reduceEq, *, showC, h, hf]; rfl)), rfl⟩
        ((try clear hK) <;> (try simp only [WKe, *]) <;> repeat (first | with_reducible exact EntR.done | refine S.e ?_ | (refine S.f ?_ <;> (try simp only [WKe, ↓reduceIte, reduceCtorEq, Int.reduceEq, *])) | with_reducible apply EntR.ex | refine EntR.drop (F := F) ?_ | refine EntR.drop ?_))
  · have h' := h
    unfold inR at h'
    have hI : ∀ s4, showG gL k ⟨s4, m⟩ = gL := fun s4 => by simp [showG, showC, h]
    ((try simp only [WKb, ↓reduceIte, Nat.reduceEqDiff, Nat.reduceAdd]) <;> (repeat' ((first
    | (refine G.tr ?_; first | refine S.a ?_ | refine Tr.brK ?_ ?_ | (refine G.call 136 ?_; refine S.c ?_ (h := rclone_ok ?_ ?_ ?_ ?_)) | (refine G.call 137 ?_; refine S.c ?_ (h := rbecome_ok)) | refine S.n fun _ => ?_ | refine S.i fun hix => ?_ | (refine S.g fun hb => ?_; (try simp only [hb])) | (refine S.s (fun hb => ?_) (fun hb => ?_) <;> ((try simp only [hb]) <;> (try (have hp := hb; simp only [WKs] at hp; (try have hq := Int.not_le.2 hp); (try have hq := Int.not_lt.2 hp))))))
    | rintro _ _ ⟨rfl, rfl⟩
    | rintro _ _ ⟨_, _, _, _, _, rfl, rfl⟩
    | ((fail_if_success refine G.tr ?_); exact G.prop S.p)
    | fail) <;> (try simp only [WKb, ↓reduceIte, Nat.reduceEqDiff]))))
    all_goals
      apply Tr.fin hK ⟨o.ss, o.fs, o.ps, o.ls, ys, (fun s4 => by rw [hI]; exact hy), (by first | (simp [*, showC]; done) | (simp only [WKe, ↓reduceIte, reduceCtorEq, Int.reduceEq, eq_self, *, showC, h]; done) | (simp only [WKe, ↓reduceIte, reduceCtorEq, Int.reduceEq, *, showC, h]; rfl)), rfl⟩
      ((try clear hK) <;> (try simp only [WKe, *]) <;> repeat (first | with_reducible exact EntR.done | refine S.e ?_ | (refine S.f ?_ <;> (try simp only [WKe, ↓reduceIte, reduceCtorEq, Int.reduceEq, *])) | with_reducible apply EntR.ex | refine EntR.drop (F := F) ?_ | refine EntR.drop ?_))

theorem rwipe_ok {r : Nat} {o : ObW} {gS : List SemG} {gF : List FlagG} {xs ys : List (SL Msg)} {gL : List SlateG} {k : Int} (h1 : gS.length ≤ 100000) (h2 : gF.length ≤ 100000) (h3 : xs.length ≤ 100000) (h4 : ys.length ≤ 100000) (hy : ys.map mo = gL.map SlateG.mm) :
    Trip Try.prog 112 [.pointer (some ⟨r, 0, none⟩), .int .i64 k].toArray [rOB r o, sl false o.ss.v (gS.map SemG.count), sl false o.fs.v (gF.map FlagG.up), sl false o.ps.v xs, fzl xs, sl false o.ls.v ys, fzl ys]
    fun v l' => ∃ a b c d ys2, ys2.map mo = (wipeG gL k).map SlateG.mm ∧ v = .int .i64 (wipeC gL k) ∧ l' = [rOB r ⟨o.c, a, b, c, d⟩, sl false (SV.v a) ((gS).map SemG.count), sl false (SV.v b) ((gF).map FlagG.up), sl false (SV.v c) xs, fzl xs, sl false (SV.v d) ys2, fzl ys2] := by
  intro F K hK
  simp only [List.cons_append, List.nil_append]
  have hl1 : (gS.map SemG.count).length = gS.length := List.length_map _
  have hl2 : (gF.map FlagG.up).length = gF.length := List.length_map _
  have hlx := mm_len hy
  (refine Tr.enter (rs := [.tmp 4]) mixed fn112 rfl (by simp +arith [Try.ntmps112]) fun u => ?_; simp only [cd112, Try.f112])
  by_cases h : inR gL k
  · have ⟨h0, h1'⟩ := h
    have hI : wipeG gL k = gL.set k.toNat { ix gL k with m := ⟨⟨none, 0, 0⟩, []⟩, shown := false } := by simp [wipeG, h]
    have hde : (⟨⟨none, 0, 0⟩, []⟩ : SL Msg) = default := rfl
    have hS : (ys.set k.toNat default).map mo = (wipeG gL k).map SlateG.mm := by rw [hI]; exact mm_set hy rfl
    ((try simp only [WKb, ↓reduceIte, Nat.reduceEqDiff, Nat.reduceAdd]) <;> (repeat' ((first
    | (refine G.tr ?_; first | refine S.a ?_ | refine Tr.brK ?_ ?_ | (refine G.call 136 ?_; refine S.c ?_ (h := rclone_ok ?_ ?_ ?_ ?_)) | (refine G.call 137 ?_; refine S.c ?_ (h := rbecome_ok)) | refine S.n fun _ => ?_ | refine S.i fun hix => ?_ | (refine S.g fun hb => ?_; (try simp only [hb])) | (refine S.s (fun hb => ?_) (fun hb => ?_) <;> ((try simp only [hb]) <;> (try (have hp := hb; simp only [WKs] at hp; (try have hq := Int.not_le.2 hp); (try have hq := Int.not_lt.2 hp))))))
    | rintro _ _ ⟨rfl, rfl⟩
    | rintro _ _ ⟨_, _, _, _, _, rfl, rfl⟩
    | ((fail_if_success refine G.tr ?_); exact G.prop S.p)
    | fail) <;> (try simp only [WKb, ↓reduceIte, Nat.reduceEqDiff]))))
    all_goals
      apply Tr.fin hK ⟨_, _, _, _, _, hS, (by first | (simp [*, wipeC]; done) | (simp only [WKe, ↓reduceIte, reduceCtorEq, Int.reduceEq, eq_self, *, wipeC, h]; done) | (simp only [WKe, ↓reduceIte, reduceCtorEq, Int.reduceEq, *, wipeC, h]; rfl)), rfl⟩
      ((try clear hK) <;> (try simp only [WKe, *]) <;> repeat (first | with_reducible exact EntR.done | refine S.e ?_ | (refine S.f ?_ <;> (try simp only [WKe, hde, ↓reduceIte, reduceCtorEq, Int.reduceEq, *])) | with_reducible apply EntR.ex | refine EntR.drop (F := F) ?_ | refine EntR.drop ?_))
  · have h' := h
    unfold inR at h'
    have hI : wipeG gL k = gL := by simp [wipeG, h]
    ((try simp only [WKb, ↓reduceIte, Nat.reduceEqDiff, Nat.reduceAdd]) <;> (repeat' ((first
    | (refine G.tr ?_; first | refine S.a ?_ | refine Tr.brK ?_ ?_ | (refine G.call 136 ?_; refine S.c ?_ (h := rclone_ok ?_ ?_ ?_ ?_)) | (refine G.call 137 ?_; refine S.c ?_ (h := rbecome_ok)) | refine S.n fun _ => ?_ | refine S.i fun hix => ?_ | (refine S.g fun hb => ?_; (try simp only [hb])) | (refine S.s (fun hb => ?_) (fun hb => ?_) <;> ((try simp only [hb]) <;> (try (have hp := hb; simp only [WKs] at hp; (try have hq := Int.not_le.2 hp); (try have hq := Int.not_lt.2 hp))))))
    | rintro _ _ ⟨rfl, rfl⟩
    | rintro _ _ ⟨_, _, _, _, _, rfl, rfl⟩
    | ((fail_if_success refine G.tr ?_); exact G.prop S.p)
    | fail) <;> (try simp only [WKb, ↓reduceIte, Nat.reduceEqDiff]))))
    all_goals
      apply Tr.fin hK ⟨o.ss, o.fs, o.ps, o.ls, ys, (by rw [hI]; exact hy), (by first | (simp [*, wipeC]; done) | (simp only [WKe, ↓reduceIte, reduceCtorEq, Int.reduceEq, eq_self, *, wipeC, h]; done) | (simp only [WKe, ↓reduceIte, reduceCtorEq, Int.reduceEq, *, wipeC, h]; rfl)), rfl⟩
      ((try clear hK) <;> (try simp only [WKe, *]) <;> repeat (first | with_reducible exact EntR.done | refine S.e ?_ | (refine S.f ?_ <;> (try simp only [WKe, ↓reduceIte, reduceCtorEq, Int.reduceEq, *])) | with_reducible apply EntR.ex | refine EntR.drop (F := F) ?_ | refine EntR.drop ?_))

theorem rlook_ok {r : Nat} {o : ObW} {ys : List (SL Msg)} {gL : List SlateG} {k : Int} (hy : ys.map mo = gL.map SlateG.mm) : Trip Try.prog 111 [.pointer (some ⟨r, 0, none⟩), .int .i64 k].toArray [rOB r o, sl false o.ls.v ys, fzl ys]
    fun v l' => ∃ t : SV, v = .tuple #[t.v, .int .i64 (lookC gL k)] ∧ l' = [Fz.fz (SL.mk t (lookD gL k) : Msg), rOB r o, sl false o.ls.v ys, fzl ys] := by
  intro F K hK
  simp only [List.cons_append, List.nil_append]
  have hlx := mm_len hy
  have hdm : (⟨⟨none, 0, 0⟩, []⟩ : Msg) = default := rfl
  (refine Tr.enter (rs := [.tmp 4, .tmp 5]) mixed fn111 rfl (by simp +arith [Try.ntmps111]) fun u => ?_; simp only [cd111, Try.f111])
  by_cases h : inR gL k
  · have ⟨h0, h1'⟩ := h
    have hms := mm_ix hy h
    cases hs : (ix gL k).shown
    · have hlm : (ix ys k).d.length = 0 := by have := congrArg List.length hms; simpa [SlateG.mm, hs] using this
      have hlm' : ((ix ys k).d.length : Int) = 0 := by omega
      have hD : lookD gL k = [] := by simp [lookD, lookC, h, hs]
      ((try simp only [WKb, ↓reduceIte, Nat.reduceEqDiff, Nat.reduceAdd]) <;> (repeat' ((first
    | (refine G.tr ?_; first | refine S.a ?_ | refine Tr.brK ?_ ?_ | refine S.n fun _ => ?_ | refine S.i fun hix => ?_ | (refine S.g fun hb => ?_; (try simp only [hb])) | (refine S.s (fun hb => ?_) (fun hb => ?_) <;> ((try simp only [hb]) <;> (try (have hp := hb; simp only [WKs] at hp; (try have hq := Int.not_le.2 hp); (try have hq := Int.not_lt.2 hp))))))
    | ((fail_if_success refine G.tr ?_); exact G.prop S.p)
    | fail) <;> (try simp only [WKb, ↓reduceIte, Nat.reduceEqDiff, hlm']))))
      all_goals
        apply Tr.fin hK ⟨⟨none, 0, 0⟩, (by first | (simp [*, lookC]; done) | (simp only [WKe, ↓reduceIte, *, lookC]; done) | (simp only [WKe, ↓reduceIte, *, lookC]; rfl)), rfl⟩
        ((try clear hK) <;> (try simp only [WKe, *]) <;> repeat (first | with_reducible exact EntR.done | refine S.e ?_ | (refine S.f ?_ <;> (try simp only [WKe, hD, hdm, ↓reduceIte, reduceCtorEq, Int.reduceEq, *])) | with_reducible apply EntR.ex | refine EntR.drop (F := F) ?_ | refine EntR.drop ?_))
    · have hlm : (ix ys k).d.length = 1 := by have := congrArg List.length hms; simpa [SlateG.mm, hs] using this
      have hD : lookD gL k = (ix (ix ys k).d 0).d := by
        rw [← ix_map (f := SL.d) (by omega) (by omega), hms]
        rw [SlateG.mm, if_pos hs]
        simp only [lookD, lookC, h, hs, if_true]
        rfl
      ((try simp only [WKb, ↓reduceIte, Nat.reduceEqDiff, Nat.reduceAdd]) <;> (repeat' ((first
    | (refine G.tr ?_; first | refine S.a ?_ | refine Tr.brK ?_ ?_ | refine S.n fun _ => ?_ | refine S.i fun hix => ?_ | (refine S.g fun hb => ?_; (try simp only [hb])) | (refine S.s (fun hb => ?_) (fun hb => ?_) <;> ((try simp only [hb]) <;> (try (have hp := hb; simp only [WKs] at hp; (try have hq := Int.not_le.2 hp); (try have hq := Int.not_lt.2 hp))))))
    | ((fail_if_success refine G.tr ?_); exact G.prop S.p)
    | fail) <;> (try simp only [WKb, ↓reduceIte, Nat.reduceEqDiff, hlm]))))
      all_goals
        apply Tr.fin hK ⟨(ix (ix ys k).d 0).s, (by first | (simp [*, lookC]; done) | (simp only [WKe, ↓reduceIte, reduceCtorEq, Int.reduceEq, eq_self, *, lookC, h, hs]; done) | (simp only [WKe, ↓reduceIte, reduceCtorEq, Int.reduceEq, *, lookC, h, hs]; rfl)), rfl⟩
        ((try clear hK) <;> (try simp only [WKe, *]) <;> repeat (first | with_reducible exact EntR.done | refine S.e ?_ | (refine S.f ?_ <;> (try simp only [WKe, hD, ↓reduceIte, reduceCtorEq, Int.reduceEq, *])) | with_reducible apply EntR.ex | refine EntR.drop (F := F) ?_ | refine EntR.drop ?_))
  · have h' := h
    unfold inR at h'
    have hD : lookD gL k = [] := by simp [lookD, lookC, h]
    ((try simp only [WKb, ↓reduceIte, Nat.reduceEqDiff, Nat.reduceAdd]) <;> (repeat' ((first
    | (refine G.tr ?_; first | refine S.a ?_ | refine Tr.brK ?_ ?_ | refine S.n fun _ => ?_ | refine S.i fun hix => ?_ | (refine S.g fun hb => ?_; (try simp only [hb])) | (refine S.s (fun hb => ?_) (fun hb => ?_) <;> ((try simp only [hb]) <;> (try (have hp := hb; simp only [WKs] at hp; (try have hq := Int.not_le.2 hp); (try have hq := Int.not_lt.2 hp))))))
    | ((fail_if_success refine G.tr ?_); exact G.prop S.p)
    | fail) <;> (try simp only [WKb, ↓reduceIte, Nat.reduceEqDiff]))))
    all_goals
      apply Tr.fin hK ⟨⟨none, 0, 0⟩, (by first | (simp [*, lookC]; done) | (simp only [↓reduceIte, *, lookC]; done) | (simp only [↓reduceIte, *, lookC]; rfl)), rfl⟩
      ((try clear hK) <;> (try simp only [WKe, *]) <;> repeat (first | with_reducible exact EntR.done | refine S.e ?_ | (refine S.f ?_ <;> (try simp only [WKe, hD, hdm, ↓reduceIte, reduceCtorEq, Int.reduceEq, *])) | with_reducible apply EntR.ex | refine EntR.drop (F := F) ?_ | refine EntR.drop ?_))

end Go.Proofs.Ytlmcoiloepoggaa
