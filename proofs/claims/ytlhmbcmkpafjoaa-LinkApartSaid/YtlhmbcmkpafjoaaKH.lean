import Derived.Test.YtlhmbcmkpafjoaaKG
namespace Go.Proofs.Ytlhmbcmkpafjoaa
open Go Go.Wk
set_option maxHeartbeats 6400000
set_option maxRecDepth 100000
theorem mem_set_all {α : Type} {p : α → Prop} {xs : List α} {k : Nat} {y : α} (h : ∀ g ∈ xs, p g) (hy : p y) : ∀ g ∈ xs.set k y, p g := fun g hg => by
  rcases List.mem_or_eq_of_mem_set hg with h1 | h1
  · exact h g h1
  · rw [h1]; exact hy
def apOK (ps : List AP) (n : Nat) : Prop := ps.length ≤ 8 ∧ ∀ p ∈ ps, p.ms.length ≤ n
theorem apOK_up {ps : List AP} {n m : Nat} (h : apOK ps n) (hm : n ≤ m) : apOK ps m := ⟨h.1, fun p hp => Nat.le_trans (h.2 p hp) hm⟩
theorem apOK_ix {ps : List AP} {n : Nat} (h : apOK ps n) (k : Int) : (ix ps k).ms.length ≤ n := by
  by_cases hk : k.toNat < ps.length
  · exact h.2 _ (by unfold ix; simp [hk])
  · have : ix ps k = default := by unfold ix; simp [hk]
    rw [this]; exact Nat.zero_le _
theorem apOK_set {ps : List AP} {n k : Nat} {y : AP} (h : apOK ps n) (hy : y.ms.length ≤ n) : apOK (ps.set k y) n := ⟨by rw [List.length_set]; exact h.1, mem_set_all h.2 hy⟩
theorem apOK_del {ps : List AP} {n : Nat} {k : Int} {m : List UInt8} (h : apOK ps n) : apOK (delA ps k m) (n + 1) := by
  have hu := apOK_up h (Nat.le_succ n)
  have hx := apOK_ix h k
  unfold delA
  split
  · exact apOK_set hu (by simp)
  · split
    · split
      · exact apOK_set hu (by simp; omega)
      · exact apOK_set hu (by simp; omega)
    · exact hu
theorem apOK_drain {ps : List AP} {n : Nat} {k : Int} (h : apOK ps n) : apOK (drainA ps k) n := by
  have hx := apOK_ix h k
  unfold drainA
  split
  · exact apOK_set h (by simp)
  · split
    · split
      · exact apOK_set h (by simp; omega)
      · exact h
    · exact h
/-- A partition's ports, the document's. -/
structure RG where
  r : Nat
  a : SV
  b : SV
  c : SV
  d : SV
  ps : List AP
  xs : List (SL Msg)
instance : Inhabited RG := ⟨⟨0, ⟨none, 0, 0⟩, ⟨none, 0, 0⟩, ⟨none, 0, 0⟩, ⟨none, 0, 0⟩, [], []⟩⟩
def RG.pt (g : RG) : Pt := ⟨some g.r⟩
def refA (g : RG) : Asrt := sep (rB g.r g.a g.b g.c g.d) (sep (sl true g.a.v (g.ps.map AP.c)) (sep (sl false g.b.v g.xs) (sep (fzl g.xs) (sep (sl false g.c.v (g.ps.map AP.fresh)) (sl false g.d.v (g.ps.map AP.lost))))))
theorem refA_open {g : RG} {l : List Asrt} {X : WP} (h : Tr (rB g.r g.a g.b g.c g.d :: sl true g.a.v (g.ps.map AP.c) :: sl false g.b.v g.xs :: fzl g.xs :: sl false g.c.v (g.ps.map AP.fresh) :: sl false g.d.v (g.ps.map AP.lost) :: l) X) : Tr (refA g :: l) X :=
  h.imp (Imp.trans Imp.sep (Imp.cons (Imp.trans Imp.sep (Imp.cons (Imp.trans Imp.sep (Imp.cons (Imp.trans Imp.sep (Imp.cons Imp.sep))))))))
def invR (Rs : List RG) (n : Nat) : Prop := ∀ g ∈ Rs, g.xs.map mo = g.ps.map AP.ms ∧ apOK g.ps n
theorem invR_up {Rs : List RG} {n m : Nat} (h : invR Rs n) (hm : n ≤ m) : invR Rs m := fun g hg => ⟨(h g hg).1, apOK_up (h g hg).2 hm⟩
theorem invR_ix {Rs : List RG} {n : Nat} (h : invR Rs n) {k : Int} (h0 : 0 ≤ k) (h1 : k < Rs.length) : (ix Rs k).xs.map mo = (ix Rs k).ps.map AP.ms ∧ apOK (ix Rs k).ps n := h _ (List.mem_of_getElem? (ix_some h0 h1))
theorem rps_len {Rs : List RG} : (Rs.map RG.ps).length = Rs.length := List.length_map _
theorem rps_ix {Rs : List RG} {k : Int} (h0 : 0 ≤ k) (h1 : k < Rs.length) : ix (Rs.map RG.ps) k = (ix Rs k).ps := ix_map (f := RG.ps) h0 h1
attribute [local irreducible] BrK GenK EGenK EUnitK CallK FnK CallV GuardO GuardC CondW opX opK opKc chkR eqR seqK blkK endL WL WD W LoopW BinK Tr drewK resL PickK NotK NilK ExtrK getK Instr.storeAt Instr.loadAt Instr.fieldAt Instr.indexAt Instr.lookup Instr.mapUpdate Instr.box Instr.alloc Instr.build Instr.buildSlice Instr.makeSlice Instr.makeMap Instr.sliceAt Instr.field Instr.index Instr.makeInterface Instr.typeAssert Builtin.len_ Builtin.append_ Builtin.cap_ Builtin.min_ Builtin.max_ Builtin.copy_ Builtin.clear_ convert binOp mp blk rob sl sep ex fact old
attribute [local irreducible] chn CW
theorem rdeliv_ok {u0 : Value} {c : ConfC} [hd : DeA u0 c] {chs : List ChanC} {ch win : Int} {s all : SV} {d : List UInt8} {Rs : List RG} {n : Nat} (hv : invR Rs n) (hn : n ≤ 900000) :
    Trip Try.prog 47 [u0, .agg [.int .i64 ch, .int .i64 win, s.v].toArray, all.v].toArray [sl true c.chans.v chs, sl true s.v d, sl true all.v (Rs.map RG.pt), fam refA Rs]
    fun v l' => ∃ Rs2, invR Rs2 (n + 1) ∧ Rs2.map RG.pt = Rs.map RG.pt ∧ Rs2.map RG.ps = delivA chs ch d (Rs.map RG.ps) ∧ v = .bool (delivB chs ch (Rs.map RG.ps)) ∧ l' = [fam refA Rs2] := by
  obtain rfl := hd.h
  intro F K hK
  simp only [List.cons_append, List.nil_append]
  obtain ⟨c1, c2, c3, c4, c5, c6, c7, c8, c9, c10, c11, c12, c13⟩ := c
  by_cases hin : inCh chs ch
  · obtain ⟨hi0, hi1⟩ := id hin
    by_cases htp : 0 ≤ (ix chs ch).tp ∧ (ix chs ch).tp < Rs.length
    · obtain ⟨h0, h1⟩ := htp
      have hok : toOK chs ch (Rs.map RG.ps).length := ⟨hin, h0, by rw [rps_len]; exact h1⟩
      obtain ⟨hx, hap⟩ := invR_ix hv h0 h1
      have hms := apOK_ix hap (ix chs ch).to
      have h8 := hap.1
      have hp : ix (Rs.map RG.pt) (ix chs ch).tp = ⟨some (ix Rs (ix chs ch).tp).r⟩ := ix_map (f := RG.pt) h0 h1
      have hB : delivB chs ch (Rs.map RG.ps) = delBA (ix Rs (ix chs ch).tp).ps (ix chs ch).to := by
        unfold delivB; rw [if_pos hok, rps_ix h0 h1]
      have hS : ∀ b2 c2 d2 xs2, xs2.map mo = (delA (ix Rs (ix chs ch).tp).ps (ix chs ch).to d).map AP.ms → invR (Rs.set (ix chs ch).tp.toNat ⟨(ix Rs (ix chs ch).tp).r, (ix Rs (ix chs ch).tp).a, b2, c2, d2, delA (ix Rs (ix chs ch).tp).ps (ix chs ch).to d, xs2⟩) (n + 1) := fun b2 c2 d2 xs2 hxs => mem_set_all (invR_up hv (by omega)) ⟨hxs, apOK_del hap⟩
      have hT : ∀ b2 c2 d2 xs2, (Rs.set (ix chs ch).tp.toNat ⟨(ix Rs (ix chs ch).tp).r, (ix Rs (ix chs ch).tp).a, b2, c2, d2, delA (ix Rs (ix chs ch).tp).ps (ix chs ch).to d, xs2⟩).map RG.pt = Rs.map RG.pt := fun b2 c2 d2 xs2 => map_same (f := RG.pt) h0 h1 _ rfl
      have hA : ∀ b2 c2 d2 xs2, (Rs.set (ix chs ch).tp.toNat ⟨(ix Rs (ix chs ch).tp).r, (ix Rs (ix chs ch).tp).a, b2, c2, d2, delA (ix Rs (ix chs ch).tp).ps (ix chs ch).to d, xs2⟩).map RG.ps = delivA chs ch d (Rs.map RG.ps) := fun b2 c2 d2 xs2 => by
        unfold delivA; rw [if_pos hok, rps_ix h0 h1, List.map_set]
      refine Tr.famAt (A := refA) (ix chs ch).tp (by (repeat (first | exact TakeA.here | apply TakeA.next)); done) h0 h1 ?_
      refine refA_open ?_
      (refine Tr.enter (rs := [.tmp 6]) mixed fn47 rfl (by simp +arith [Try.ntmps47]) fun u => ?_; simp only [cd47, Try.f47])
      ((try simp only [WKb, ↓reduceIte, Nat.reduceEqDiff, Nat.reduceAdd]) <;> (repeat' ((first
    | (refine G.tr ?_; first | refine S.a ?_ | refine Tr.brK ?_ ?_ | (refine G.call 69 ?_; refine S.c ?_ (h := rdeliver_ok ?_ ?_ ?_)) | refine S.n fun _ => ?_ | refine S.i fun hix => ?_ | (refine S.g fun hb => ?_; (try simp only [hb])) | (refine S.s (fun hb => ?_) (fun hb => ?_) <;> ((try simp only [hb]) <;> (try (have hp := hb; simp only [WKs] at hp; (try have hq := Int.not_le.2 hp); (try have hq := Int.not_lt.2 hp))))))
    | rintro _ _ ⟨_, _, _, _, hxs, rfl, rfl⟩
    | ((fail_if_success refine G.tr ?_); exact G.prop S.p)
    | fail) <;> (try simp only [WKb, WKh, ↓reduceIte, Nat.reduceEqDiff, pl47, hp]))))
      all_goals
        apply Tr.fin hK ⟨_, hS _ _ _ _ hxs, hT _ _ _ _, hA _ _ _ _, (by first | (simp [*]; done) | (simp only [WKe, ↓reduceIte, reduceCtorEq, Int.reduceEq, eq_self, *, hB]; done) | (simp only [WKe, ↓reduceIte, reduceCtorEq, Int.reduceEq, *, hB]; rfl)), rfl⟩
        ((try clear hK) <;> (try simp only [WKe, *]) <;> repeat (first | with_reducible exact EntR.done | refine S.e ?_ | (refine S.f ?_ <;> (try simp only [refA, *])) | with_reducible apply EntR.ex | refine EntR.drop (F := F) ?_ | refine EntR.drop ?_))
    · have hok : ¬ toOK chs ch (Rs.map RG.ps).length := fun h => htp ⟨h.2.1, by rw [rps_len] at h; exact h.2.2⟩
      have hB : delivB chs ch (Rs.map RG.ps) = false := if_neg hok
      have hA : delivA chs ch d (Rs.map RG.ps) = Rs.map RG.ps := if_neg hok
      (refine Tr.enter (rs := [.tmp 6]) mixed fn47 rfl (by simp +arith [Try.ntmps47]) fun u => ?_; simp only [cd47, Try.f47])
      ((try simp only [WKb, ↓reduceIte, Nat.reduceEqDiff, Nat.reduceAdd]) <;> (repeat' ((first
    | (refine G.tr ?_; first | refine S.a ?_ | refine Tr.brK ?_ ?_ | (refine G.call 69 ?_; refine S.c ?_ (h := rdeliver_ok ?_ ?_ ?_)) | refine S.n fun _ => ?_ | refine S.i fun hix => ?_ | (refine S.g fun hb => ?_; (try simp only [hb])) | (refine S.s (fun hb => ?_) (fun hb => ?_) <;> ((try simp only [hb]) <;> (try (have hp := hb; simp only [WKs] at hp; (try have hq := Int.not_le.2 hp); (try have hq := Int.not_lt.2 hp))))))
    | rintro _ _ ⟨_, _, _, _, hxs, rfl, rfl⟩
    | ((fail_if_success refine G.tr ?_); exact G.prop S.p)
    | fail) <;> (try simp only [WKb, ↓reduceIte, Nat.reduceEqDiff, pl47]))))
      all_goals
        apply Tr.fin hK ⟨Rs, invR_up hv (by omega), rfl, hA.symm, (by first | (simp [*]; done) | (simp only [WKe, ↓reduceIte, reduceCtorEq, Int.reduceEq, eq_self, *, hB]; done) | (simp only [WKe, ↓reduceIte, reduceCtorEq, Int.reduceEq, *, hB]; rfl)), rfl⟩
        ((try clear hK) <;> (try simp only [WKe, *]) <;> repeat (first | with_reducible exact EntR.done | refine S.e ?_ | (refine S.f ?_ <;> (try simp only [WKe, ↓reduceIte, reduceCtorEq, Int.reduceEq, *])) | with_reducible apply EntR.ex | refine EntR.drop (F := F) ?_ | refine EntR.drop ?_))
  · have hok : ¬ toOK chs ch (Rs.map RG.ps).length := fun h => hin h.1
    have hB : delivB chs ch (Rs.map RG.ps) = false := if_neg hok
    have hA : delivA chs ch d (Rs.map RG.ps) = Rs.map RG.ps := if_neg hok
    unfold inCh at hin
    (refine Tr.enter (rs := [.tmp 6]) mixed fn47 rfl (by simp +arith [Try.ntmps47]) fun u => ?_; simp only [cd47, Try.f47])
    ((try simp only [WKb, ↓reduceIte, Nat.reduceEqDiff, Nat.reduceAdd]) <;> (repeat' ((first
    | (refine G.tr ?_; first | refine S.a ?_ | refine Tr.brK ?_ ?_ | (refine G.call 69 ?_; refine S.c ?_ (h := rdeliver_ok ?_ ?_ ?_)) | refine S.n fun _ => ?_ | refine S.i fun hix => ?_ | (refine S.g fun hb => ?_; (try simp only [hb])) | (refine S.s (fun hb => ?_) (fun hb => ?_) <;> ((try simp only [hb]) <;> (try (have hp := hb; simp only [WKs] at hp; (try have hq := Int.not_le.2 hp); (try have hq := Int.not_lt.2 hp))))))
    | rintro _ _ ⟨_, _, _, _, hxs, rfl, rfl⟩
    | ((fail_if_success refine G.tr ?_); exact G.prop S.p)
    | fail) <;> (try simp only [WKb, ↓reduceIte, Nat.reduceEqDiff]))))
    all_goals
      apply Tr.fin hK ⟨Rs, invR_up hv (by omega), rfl, hA.symm, (by first | (simp [*]; done) | (simp only [WKe, ↓reduceIte, reduceCtorEq, Int.reduceEq, eq_self, *, hB]; done) | (simp only [WKe, ↓reduceIte, reduceCtorEq, Int.reduceEq, *, hB]; rfl)), rfl⟩
      ((try clear hK) <;> (try simp only [WKe, *]) <;> repeat (first | with_reducible exact EntR.done | refine S.e ?_ | (refine S.f ?_ <;> (try simp only [WKe, ↓reduceIte, reduceCtorEq, Int.reduceEq, *])) | with_reducible apply EntR.ex | refine EntR.drop (F := F) ?_ | refine EntR.drop ?_))
end Go.Proofs.Ytlhmbcmkpafjoaa
