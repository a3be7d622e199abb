import Derived.Test.YtlmcoiloepoggaaOM
namespace Go.Proofs.Ytlmcoiloepoggaa
open Go Go.Wk
set_option maxHeartbeats 6400000
set_option maxRecDepth 10000
theorem least4 (n : Nat) : (if (n : Int) < 4 then (n : Int) else 4) = ((min 4 n : Nat) : Int) := by split <;> omega
theorem least8 (n : Int) : (if n < 8 then n else 8) = min n 8 := by split <;> omega
attribute [local irreducible] BrK GenK EGenK EUnitK CallK FnK CallV GuardO GuardC CondW opX opK opKc chkR eqR seqK blkK endL WL WD W LoopW BinK Tr drewK resL PickK NotK NilK ExtrK getK Instr.storeAt Instr.loadAt Instr.fieldAt Instr.indexAt Instr.lookup Instr.mapUpdate Instr.box Instr.alloc Instr.build Instr.buildSlice Instr.makeSlice Instr.makeMap Instr.sliceAt Instr.field Instr.index Instr.makeInterface Instr.typeAssert Builtin.len_ Builtin.append_ Builtin.cap_ Builtin.min_ Builtin.max_ Builtin.copy_ Builtin.clear_ convert binOp mp blk rob sl sep ex fact old
theorem rnew20_ok {u0 : Value} {c : PartC} [hd : DeA u0 c] {cs : List SemC} {cp : List PoolC} {cl : List Int} : Trip Try.prog 61 [u0].toArray [sl true c.sems.v cs, sl true c.pools.v cp, sl true c.slates.v cl]
    fun v l' => ∃ r s1 s2 s3 s4, v = .pointer (some ⟨r, 0, none⟩) ∧ l' = [rOB r ⟨c, s1, s2, s3, s4⟩, sl false (SV.v s1) ((cs.take 4).map SemC.first), sl false (SV.v s2) (List.replicate (nflags c.flags) false),
      sl false (SV.v s3) (List.replicate (min 4 cp.length) (default : SL Msg)), fzl (List.replicate (min 4 cp.length) (default : SL Msg)), sl false (SV.v s4) (List.replicate (min 4 cl.length) (default : SL Msg)), fzl (List.replicate (min 4 cl.length) (default : SL Msg))] := by
  obtain rfl := hd.h
  intro F K hK
  simp only [List.cons_append, List.nil_append]
  obtain ⟨c1, c2, c3, c4, c5, c6, c7, c8, c9, c10, c11⟩ := c
  (refine Tr.enter (rs := [.tmp 2]) mixed fn61 rfl (by simp +arith [Try.ntmps61]) fun u => ?_; simp only [cd61, Try.f61])
  ((try simp only [WKb, ↓reduceIte]) <;> (repeat' ((first
    | (refine G.tr ?_; first | refine S.a ?_ | refine Tr.brK ?_ ?_ | (refine G.call 103 ?_; refine S.c ?_ (h := rleast_ok)) | refine S.n fun _ => ?_ | refine S.i fun hix => ?_ | (refine S.g fun hb => ?_; (try simp only [hb])) | (refine S.s (fun hb => ?_) (fun hb => ?_) <;> ((try simp only [hb]) <;> (try (have hp := hb; simp only [WKs] at hp; (try have hq := Int.not_le.2 hp); (try have hq := Int.not_lt.2 hp))))))
    | rintro _ _ ⟨rfl, rfl⟩
    | ((fail_if_success refine G.tr ?_); exact G.prop S.p)
    | fail) <;> (try simp only [WKb, WKh, ↓reduceIte, Nat.reduceEqDiff]))))
  rename_i pb r
  refine Tr.loopE (α := Nat × SV) [4] [1, 2, 3] (fun x => [.int .i64 x.1]) (fun x => [rOB r ⟨⟨c1, c2, c3, c4, c5, c6, c7, c8, c9, c10, c11⟩, x.2, ⟨none, 0, 0⟩, ⟨none, 0, 0⟩, ⟨none, 0, 0⟩⟩, sl false x.2.v ((cs.take x.1).map SemC.first)])
    (fun x => x.1 ≤ min 4 cs.length) (fun x => min 4 cs.length - x.1) (0, ⟨none, 0, 0⟩) (by (repeat (first | exact TakeL.nil | (apply TakeL.cons; focus ((first | exact TakeA.dupS | exact TakeA.dupF | ((repeat (first | with_reducible exact TakeA.here | exact TakeA.fam (by omega) (by omega) | with_reducible apply TakeA.next)); done) | ((repeat (first | exact TakeA.here | apply TakeA.next)); done) | exact TakeA.famNil | exact TakeA.nilS))) | fail)); done) rfl (by simp) fun x u hx => ?_
  obtain ⟨k, sa⟩ := x
  simp only at hx ⊢
  by_cases hk : k < min 4 cs.length
  · have hw := wrapSucc (k := k) (by omega)
    have htk : (cs.take (k + 1)).map SemC.first = (cs.take k).map SemC.first ++ [(ix cs (k : Int)).first] := by rw [take_ix (by omega), List.map_append]; rfl
    have hlk : ((cs.take k).map SemC.first).length = k := by simp; omega
    ((try simp only [WKb, ↓reduceIte, Nat.reduceEqDiff]) <;> (repeat' ((first
    | (refine G.tr ?_; first | refine S.a ?_ | refine Tr.brK ?_ ?_ | (refine G.call 103 ?_; refine S.c ?_ (h := rleast_ok)) | refine S.n fun _ => ?_ | refine S.i fun hix => ?_ | (refine S.g fun hb => ?_; (try simp only [hb])) | (refine S.s (fun hb => ?_) (fun hb => ?_) <;> ((try simp only [hb]) <;> (try (have hp := hb; simp only [WKs] at hp; (try have hq := Int.not_le.2 hp); (try have hq := Int.not_lt.2 hp))))))
    | rintro _ _ ⟨rfl, rfl⟩
    | ((fail_if_success refine G.tr ?_); exact G.prop S.p)
    | fail) <;> (try simp only [WKb, ↓reduceIte, Nat.reduceEqDiff, Nat.reduceAdd, pl61, least4, hw]))))
    all_goals (apply Tr.againE (k + 1, _); (focus (simp only [WKb, ↓reduceIte, Nat.reduceEqDiff])); (focus ((try simp only [WKb, ↓reduceIte]); (all_goals ((repeat (refine cons_eq (by first | rfl | ((try clear hK) <;> first | (simp [*, htk]; done) | (simp [*, htk]; omega) | (simp [*, htk] <;> (try split) <;> simp_all <;> omega))) ?_)); rfl)); done)); (focus (first | omega | assumption | (simp only []; omega) | (refine ⟨by omega, by assumption⟩) | (simp only []; refine ⟨by omega, by assumption⟩) | ((try simp only []); (repeat' (first | omega | assumption | refine And.intro ?_ ?_)); done))); (focus (first | omega | (simp only []; omega))); (focus (((try clear hK) <;> (try simp only [WKe, *]) <;> repeat (first | with_reducible exact EntR.done | refine S.e ?_ | (refine S.f ?_ <;> (try simp only [WKe, htk, ↓reduceIte, reduceCtorEq, Int.reduceEq, *])) | with_reducible apply EntR.ex | refine EntR.drop (F := F) ?_ | refine EntR.drop ?_)))))
  · have hkk : k = min 4 cs.length := by omega
    have ht4 : cs.take k = cs.take 4 := by subst hkk; exact (List.take_eq_take_min).symm
    ((try simp only [WKb, ↓reduceIte, Nat.reduceEqDiff]) <;> (repeat' ((first
    | (refine G.tr ?_; first | refine S.a ?_ | refine Tr.brK ?_ ?_ | (refine G.call 103 ?_; refine S.c ?_ (h := rleast_ok)) | refine S.n fun _ => ?_ | refine S.i fun hix => ?_ | (refine S.g fun hb => ?_; (try simp only [hb])) | (refine S.s (fun hb => ?_) (fun hb => ?_) <;> ((try simp only [hb]) <;> (try (have hp := hb; simp only [WKs] at hp; (try have hq := Int.not_le.2 hp); (try have hq := Int.not_lt.2 hp))))))
    | rintro _ _ ⟨rfl, rfl⟩
    | ((fail_if_success refine G.tr ?_); exact G.prop S.p)
    | fail) <;> (try simp only [WKb, ↓reduceIte, Nat.reduceEqDiff, least4]))))
    refine Tr.loopE (α := Nat × SV) [5] [1, 2, 3] (fun x => [.int .i64 x.1]) (fun x => [rOB r ⟨⟨c1, c2, c3, c4, c5, c6, c7, c8, c9, c10, c11⟩, sa, x.2, ⟨none, 0, 0⟩, ⟨none, 0, 0⟩⟩, sl false x.2.v (List.replicate x.1 false)])
      (fun x => x.1 ≤ nflags c5) (fun x => nflags c5 - x.1) (0, ⟨none, 0, 0⟩) (by (repeat (first | exact TakeL.nil | (apply TakeL.cons; focus ((first | exact TakeA.dupS | exact TakeA.dupF | ((repeat (first | with_reducible exact TakeA.here | exact TakeA.fam (by omega) (by omega) | with_reducible apply TakeA.next)); done) | ((repeat (first | exact TakeA.here | apply TakeA.next)); done) | exact TakeA.famNil | exact TakeA.nilS))) | fail)); done) rfl (by simp) fun y u2 hy => ?_
    obtain ⟨j, sb⟩ := y
    simp only at hy ⊢
    have hn8 := nflags_le c5
    have hnf : (nflags c5 : Int) = max 0 (min c5 8) := by unfold nflags; omega
    by_cases hj : j < nflags c5
    · have hw := wrapSucc (k := j) (by omega)
      have hrp : List.replicate (j + 1) false = List.replicate j false ++ [false] := List.replicate_succ'
      ((try simp only [WKb, ↓reduceIte, Nat.reduceEqDiff]) <;> (repeat' ((first
    | (refine G.tr ?_; first | refine S.a ?_ | refine Tr.brK ?_ ?_ | (refine G.call 103 ?_; refine S.c ?_ (h := rleast_ok)) | refine S.n fun _ => ?_ | refine S.i fun hix => ?_ | (refine S.g fun hb => ?_; (try simp only [hb])) | (refine S.s (fun hb => ?_) (fun hb => ?_) <;> ((try simp only [hb]) <;> (try (have hp := hb; simp only [WKs] at hp; (try have hq := Int.not_le.2 hp); (try have hq := Int.not_lt.2 hp))))))
    | rintro _ _ ⟨rfl, rfl⟩
    | ((fail_if_success refine G.tr ?_); exact G.prop S.p)
    | fail) <;> (try simp only [WKb, ↓reduceIte, Nat.reduceEqDiff, Nat.reduceAdd, least8, hw]))))
      all_goals (apply Tr.againE (j + 1, _); (focus (simp only [WKb, ↓reduceIte, Nat.reduceEqDiff])); (focus ((try simp only [WKb, ↓reduceIte]); (all_goals ((repeat (refine cons_eq (by first | rfl | ((try clear hK) <;> first | (simp [*, hrp]; done) | (simp [*, hrp]; omega) | (simp [*, hrp] <;> (try split) <;> simp_all <;> omega))) ?_)); rfl)); done)); (focus (first | omega | assumption | (simp only []; omega) | (refine ⟨by omega, by assumption⟩) | (simp only []; refine ⟨by omega, by assumption⟩) | ((try simp only []); (repeat' (first | omega | assumption | refine And.intro ?_ ?_)); done))); (focus (first | omega | (simp only []; omega))); (focus (((try clear hK) <;> (try simp only [WKe, *]) <;> repeat (first | with_reducible exact EntR.done | refine S.e ?_ | (refine S.f ?_ <;> (try simp only [WKe, hrp, ↓reduceIte, reduceCtorEq, Int.reduceEq, *])) | with_reducible apply EntR.ex | refine EntR.drop (F := F) ?_ | refine EntR.drop ?_)))))
    · have hjj : j = nflags c5 := by omega
      have hd0 : (((min 4 cp.length : Nat) : Int)).toNat = min 4 cp.length := rfl
      ((try simp only [WKb, ↓reduceIte, Nat.reduceEqDiff]) <;> (repeat' ((first
    | (refine G.tr ?_; first | refine S.a ?_ | refine Tr.brK ?_ ?_ | (refine G.call 103 ?_; refine S.c ?_ (h := rleast_ok)) | refine S.n fun _ => ?_ | refine S.i fun hix => ?_ | (refine S.g fun hb => ?_; (try simp only [hb])) | (refine S.s (fun hb => ?_) (fun hb => ?_) <;> ((try simp only [hb]) <;> (try (have hp := hb; simp only [WKs] at hp; (try have hq := Int.not_le.2 hp); (try have hq := Int.not_lt.2 hp))))))
    | rintro _ _ ⟨rfl, rfl⟩
    | ((fail_if_success refine G.tr ?_); exact G.prop S.p)
    | fail) <;> (try simp only [WKb, ↓reduceIte, Nat.reduceEqDiff, Nat.reduceAdd, least8, least4]))))
      all_goals
        clear hkk hk hx
        apply Tr.fin hK ⟨_, _, _, _, _, rfl, rfl⟩
        ((try clear hK) <;> (try simp only [WKe, *]) <;> repeat (first | with_reducible exact EntR.done | refine S.e ?_ | (refine S.f ?_ <;> (try simp only [WKe, ht4, hjj, ↓reduceIte, reduceCtorEq, Int.reduceEq, *])) | with_reducible apply EntR.ex | refine EntR.drop (F := F) ?_ | refine EntR.drop ?_))
theorem rnew20e_ok {c : PartC} {cs : List SemC} {cp : List PoolC} {cl : List Int} : Trip Try.prog 61 [.agg (En.enc c).toArray].toArray [sl true c.sems.v cs, sl true c.pools.v cp, sl true c.slates.v cl]
    fun v l' => ∃ r s1 s2 s3 s4, v = .pointer (some ⟨r, 0, none⟩) ∧ l' = [rOB r ⟨c, s1, s2, s3, s4⟩, sl false (SV.v s1) ((cs.take 4).map SemC.first), sl false (SV.v s2) (List.replicate (nflags c.flags) false),
      sl false (SV.v s3) (List.replicate (min 4 cp.length) (default : SL Msg)), fzl (List.replicate (min 4 cp.length) (default : SL Msg)), sl false (SV.v s4) (List.replicate (min 4 cl.length) (default : SL Msg)), fzl (List.replicate (min 4 cl.length) (default : SL Msg))] := rnew20_ok (hd := ⟨rfl⟩)

end Go.Proofs.Ytlmcoiloepoggaa
