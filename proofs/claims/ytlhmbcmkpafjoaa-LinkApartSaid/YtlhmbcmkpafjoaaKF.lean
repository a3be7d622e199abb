import Derived.Test.YtlhmbcmkpafjoaaKE
namespace Go.Proofs.Ytlhmbcmkpafjoaa
open Go Go.Wk
set_option maxHeartbeats 6400000
set_option maxRecDepth 100000
abbrev drB (d p m : Nat) : Asrt := blk d (.cells [.pointer (some ⟨p, 0, none⟩), .map (some m)].toArray 116 (0, 0))
theorem Tr.closeP {Gs : List PG} {k : Nat} {g : PG} {l l1 l2 l3 l4 : List Asrt} {X : WP} (hk : k < Gs.length) (t1 : TakeA l (fam portsA (Gs.eraseIdx k)) l1) (t2 : TakeA l1 (poB g.p g.s) l2) (t3 : TakeA l2 (fam oneA g.gs) l3) (t4 : TakeA l3 (sl false g.s.v (g.gs.map OneG.pt)) l4)
    (hx : Tr (fam portsA (Gs.set k g) :: l4) X) : Tr l X :=
  hx.imp (EntR.famSet (d := []) t1 hk (Imp.trans (Imp.trans (Imp.trans t2 (Imp.cons (Imp.trans t3 (Imp.cons t4)))) (Imp.cons Imp.sepI)) Imp.sepI))
attribute [local irreducible] BrK GenK EGenK EUnitK CallK FnK CallV GuardO GuardC CondW opX opK opKc chkR eqR seqK blkK endL WL WD W LoopW BinK Tr drewK resL PickK NotK NilK ExtrK getK Instr.storeAt Instr.loadAt Instr.fieldAt Instr.indexAt Instr.lookup Instr.mapUpdate Instr.box Instr.alloc Instr.build Instr.buildSlice Instr.makeSlice Instr.makeMap Instr.sliceAt Instr.field Instr.index Instr.makeInterface Instr.typeAssert Builtin.len_ Builtin.append_ Builtin.cap_ Builtin.min_ Builtin.max_ Builtin.copy_ Builtin.clear_ convert binOp mp blk rob sl sep ex fact old
attribute [local irreducible] chn CW chM
theorem of_hit {d p m : Nat} {k : Int} {kvs : List (Int × Value)} {s : SV} (hf : find k kvs = some (SV.v s)) : Trip Try.prog 55 [.pointer (some ⟨d, 0, none⟩), .int .i64 k].toArray [drB d p m, mp m kvs] fun v l' => v = SV.v s ∧ l' = [drB d p m, mp m kvs] := by
  intro F K hK
  simp only [List.cons_append, List.nil_append]
  (refine Tr.enter (rs := [.tmp 4]) mixed fn55 rfl (by simp +arith [Try.ntmps55]) fun u => ?_; simp only [cd55, Try.f55])
  ((try simp only [WKb, ↓reduceIte, Nat.reduceEqDiff, Nat.reduceAdd]) <;> (repeat' ((first
    | (refine G.tr ?_; first | refine S.a ?_ | refine Tr.brK ?_ ?_ | (refine G.call 73 ?_; first | refine S.c ?_ (h := pdrain1_ok) | refine S.c ?_ (h := pdrain0_ok) | refine S.c ?_ (h := drain0_ok (by rfl) ?_) | refine S.c ?_ (h := drain1_ok ?_)) | refine S.n fun _ => ?_ | refine S.i fun hix => ?_ | (refine S.g fun hb => ?_; (try simp only [hb])) | (refine S.s (fun hb => ?_) (fun hb => ?_) <;> ((try simp only [hb]) <;> (try (have hp := hb; simp only [WKs] at hp; (try have hq := Int.not_le.2 hp); (try have hq := Int.not_lt.2 hp))))))
    | rintro _ _ ⟨rfl, rfl⟩
    | rintro _ _ ⟨_, rfl, rfl⟩
    | rintro _ _ ⟨_, _, hrd, rfl, rfl⟩
    | ((fail_if_success refine G.tr ?_); exact G.prop S.p)
    | fail) <;> (try simp only [WKb, ↓reduceIte, Nat.reduceEqDiff, hf, Option.getD_some, Option.isSome_some]))))
  all_goals
    refine Tr.fin hK ⟨rfl, rfl⟩ ?_
    ((try clear hK) <;> (try simp only [WKe, *]) <;> repeat (first | with_reducible exact EntR.done | refine S.e ?_ | (refine S.f ?_ <;> (try simp only [WKe, ↓reduceIte, reduceCtorEq, Int.reduceEq, *])) | with_reducible apply EntR.ex | refine EntR.drop (F := F) ?_ | refine EntR.drop ?_))
theorem of_miss {d p m : Nat} {k : Int} {kvs : List (Int × Value)} {s : SV} {gs : List OneG} (hf : find k kvs = none) (hl : (ix gs k).m.d.length ≤ 1000000) : Trip Try.prog 55 [.pointer (some ⟨d, 0, none⟩), .int .i64 k].toArray [drB d p m, mp m kvs, poB p s, fam oneA gs, sl false s.v (gs.map OneG.pt)]
    fun v l' => ∃ r : SL Msg, r.d.map SL.d = drainD gs k ∧ v = SV.v r.s ∧ l' = [drB d p m, mp m (kvs ++ [(k, SV.v r.s)]), poB p s, fam oneA (drainG gs k), sl false s.v ((drainG gs k).map OneG.pt), sl false (SV.v r.s) r.d, fzl r.d] := by
  intro F K hK
  simp only [List.cons_append, List.nil_append]
  have hu : ∀ v, upsert k v kvs = kvs ++ [(k, v)] := fun v => upsert_none hf
  (refine Tr.enter (rs := [.tmp 4]) mixed fn55 rfl (by simp +arith [Try.ntmps55]) fun u => ?_; simp only [cd55, Try.f55])
  ((try simp only [WKb, ↓reduceIte, Nat.reduceEqDiff, Nat.reduceAdd]) <;> (repeat' ((first
    | (refine G.tr ?_; first | (refine G.call 73 ?_; refine S.c ?_ (h := drain_ok hl); rintro _ _ ⟨r, hrd, rfl, rfl⟩) | refine S.a ?_ | refine Tr.brK ?_ ?_ | (refine G.call 73 ?_; first | refine S.c ?_ (h := pdrain1_ok) | refine S.c ?_ (h := pdrain0_ok) | refine S.c ?_ (h := drain0_ok (by rfl) ?_) | refine S.c ?_ (h := drain1_ok ?_)) | refine S.n fun _ => ?_ | refine S.i fun hix => ?_ | (refine S.g fun hb => ?_; (try simp only [hb])) | (refine S.s (fun hb => ?_) (fun hb => ?_) <;> ((try simp only [hb]) <;> (try (have hp := hb; simp only [WKs] at hp; (try have hq := Int.not_le.2 hp); (try have hq := Int.not_lt.2 hp))))))
    | rintro _ _ ⟨rfl, rfl⟩
    | rintro _ _ ⟨_, rfl, rfl⟩
    | rintro _ _ ⟨_, _, hrd, rfl, rfl⟩
    | ((fail_if_success refine G.tr ?_); exact G.prop S.p)
    | fail) <;> (try simp only [WKb, ↓reduceIte, Nat.reduceEqDiff, hf, hu, Option.getD_none, Option.isSome_none]))))
  all_goals
    apply Tr.fin hK ⟨_, hrd, rfl, rfl⟩
    ((try clear hK) <;> (try simp only [WKe, *]) <;> repeat (first | with_reducible exact EntR.done | refine S.e ?_ | (refine S.f ?_ <;> (try simp only [WKe, ↓reduceIte, reduceCtorEq, Int.reduceEq, *])) | with_reducible apply EntR.ex | refine EntR.drop (F := F) ?_ | refine EntR.drop ?_))
theorem of_ok {d p m n : Nat} {k : Int} {qs : List Int} {rs : List (SL Msg)} {s : SV} {gs : List OneG} {ab0 : List AP} (hK0 : Kept ab0 (gs.map OneG.abs) qs rs) (hv : invP gs n) : Trip Try.prog 55 [.pointer (some ⟨d, 0, none⟩), .int .i64 k].toArray [drB d p m, mp m (kvsO qs rs), fzl rs, poB p s, fam oneA gs, sl false s.v (gs.map OneG.pt)]
    fun v l' => ∃ (qs2 : List Int) (rs2 : List (SL Msg)) (gs2 : List OneG) (r : SL Msg), Kept ab0 (gs2.map OneG.abs) qs2 rs2 ∧ invP gs2 n ∧ gs2.map OneG.abs = drainA (gs.map OneG.abs) k ∧ r.d.map SL.d = drainDA ab0 k ∧ v = SV.v r.s ∧ l' = [Fz.fz r, drB d p m, mp m (kvsO qs2 rs2), fzl rs2, poB p s, fam oneA gs2, sl false s.v (gs2.map OneG.pt)] := by
  intro F K hK
  simp only [List.cons_append, List.nil_append]
  by_cases hk : k ∈ qs
  · obtain ⟨i, hi, hf, hr, hd⟩ := hK0.hit hk
    refine S.c ?_ (h := of_hit hf)
    rintro _ _ ⟨rfl, rfl⟩
    simp only [List.cons_append, List.nil_append]
    apply Tr.fin hK ⟨qs, rs, gs, ix rs (i : Int), hK0, hv, hd.symm, hr, rfl, rfl⟩
    ((try clear hK) <;> (try simp only [WKe, *]) <;> repeat (first | with_reducible exact EntR.done | refine S.e ?_ | (refine S.f ?_ <;> (try simp only [WKe, ↓reduceIte, reduceCtorEq, Int.reduceEq, *])) | with_reducible apply EntR.ex | refine EntR.drop (F := F) ?_ | refine EntR.drop ?_))
  · have hf := findO_none hK0.len hk
    have hmm := inv_mm hv k
    refine S.c ?_ (h := of_miss hf (by omega))
    rintro _ _ ⟨r, hrd, rfl, rfl⟩
    simp only [List.cons_append, List.nil_append]
    have had := abs_drain hv (k := k)
    have hm := hK0.miss hk (r := r) (by rw [hrd, had.1])
    have hks := kvsO_snoc (q := k) (r := r) hK0.len
    refine Tr.freezeAt (α := Msg) (by (repeat (first | exact TakeA.here | apply TakeA.next)); done) ?_
    apply Tr.fin hK ⟨qs ++ [k], rs ++ [r], drainG gs k, r, (by rw [had.2]; exact hm.2), inv_drain hv, had.2, hm.1, rfl, rfl⟩
    ((try clear hK) <;> (try simp only [WKe, *]) <;> repeat (first | with_reducible exact EntR.done | refine S.e ?_ | (refine S.f ?_ <;> (try simp only [WKe, hks, ↓reduceIte, reduceCtorEq, Int.reduceEq, *])) | with_reducible apply EntR.ex | refine EntR.drop (F := F) ?_ | refine EntR.drop ?_))
theorem outs_mem {chs : List ChanC} {part : Int} {k : Int} (h : k ∈ outsA chs part) : 0 ≤ k ∧ k < (min chs.length 16 : Nat) := by
  unfold outsA outsN at h
  obtain ⟨j, hj, rfl⟩ := List.mem_map.1 h
  have := List.mem_range.1 (List.mem_filter.1 hj).1
  omega
end Go.Proofs.Ytlhmbcmkpafjoaa
